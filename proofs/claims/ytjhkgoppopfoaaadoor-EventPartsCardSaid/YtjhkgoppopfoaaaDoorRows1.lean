/-
  The contract of rows: the table of a setting's fields, as it lies in memory.
-/
import Derived.Test.YtjhkgoppopfoaaaDoorBase
namespace Go.Proofs.YtjhkgoppopfoaaaDoor
open Go.RowKit
set_option linter.unusedVariables false
set_option linter.unusedSimpArgs false
set_option maxHeartbeats 400000 in
theorem fixed_any (lo hi : Int) (w : World) : Calls Tryd.prog 68 #[.int .i64 lo, .int .i64 hi] w fun e w' =>
    e = .returned (.func (.func 97) #[] #[.pointer (some ⟨w.heap.size, 0, none⟩), .pointer (some ⟨w.heap.size + 1, 0, none⟩)]) ∧ w' = (w.alloc (.cells #[.int .i64 lo] 3)).alloc (.cells #[.int .i64 hi] 3) := by
  have hmf : ∀ (fn : Fn) (first cap : Array Value) (w : World), (Instr.makeFunc fn first cap).run Tryd.prog w = .ok (.func fn first cap) w := fun _ _ _ _ => rfl
  go_enter Tryd.func68, Tryd.ntmps68
  go_wp2
  go_ret
  exact ⟨rfl, rfl⟩
def rowCells (B : Nat) : Array Value := #[.string ⟨#[115, 101, 114, 118, 101, 114]⟩, .func (.func 67) #[] #[], .func (.func 97) #[] #[.pointer (some ⟨B, 0, none⟩), .pointer (some ⟨B + 1, 0, none⟩)], .string ⟨#[100, 97, 116, 97, 103, 114, 97, 109]⟩, .func (.func 69) #[] #[], .func (.func 97) #[] #[.pointer (some ⟨B + 2, 0, none⟩), .pointer (some ⟨B + 3, 0, none⟩)], .string ⟨#[102, 105, 114, 115, 116]⟩, .func (.func 70) #[] #[], .func (.func 71) #[] #[], .string ⟨#[109, 111, 115, 116]⟩, .func (.func 72) #[] #[], .func (.func 73) #[] #[], .string ⟨#[114, 116, 116]⟩, .func (.func 74) #[] #[], .func (.func 97) #[] #[.pointer (some ⟨B + 4, 0, none⟩), .pointer (some ⟨B + 5, 0, none⟩)], .string ⟨#[100, 101, 108, 97, 121]⟩, .func (.func 75) #[] #[], .func (.func 97) #[] #[.pointer (some ⟨B + 6, 0, none⟩), .pointer (some ⟨B + 7, 0, none⟩)], .string ⟨#[101, 120, 112]⟩, .func (.func 76) #[] #[], .func (.func 97) #[] #[.pointer (some ⟨B + 8, 0, none⟩), .pointer (some ⟨B + 9, 0, none⟩)], .string ⟨#[98, 117, 114, 115, 116]⟩, .func (.func 77) #[] #[], .func (.func 78) #[] #[], .string ⟨#[114, 111, 111, 109]⟩, .func (.func 79) #[] #[], .func (.func 97) #[] #[.pointer (some ⟨B + 10, 0, none⟩), .pointer (some ⟨B + 11, 0, none⟩)], .string ⟨#[98, 97, 99, 107, 115]⟩, .func (.func 80) #[] #[], .func (.func 97) #[] #[.pointer (some ⟨B + 12, 0, none⟩), .pointer (some ⟨B + 13, 0, none⟩)]]
/-- The table of rows lies at block R; what its functions have captured, from block B on. -/
structure RowsAt (w : World) (R B : Nat) : Prop where
  tab : w.heap[R]? = some (.cells (rowCells B) 68 (0, 0))
  c0 : w.heap[B]? = some (.cells #[.int .i64 0] 3 (0, 0))
  c1 : w.heap[B + 1]? = some (.cells #[.int .i64 1] 3 (0, 0))
  c2 : w.heap[B + 2]? = some (.cells #[.int .i64 1200] 3 (0, 0))
  c3 : w.heap[B + 3]? = some (.cells #[.int .i64 65527] 3 (0, 0))
  c4 : w.heap[B + 4]? = some (.cells #[.int .i64 1000000] 3 (0, 0))
  c5 : w.heap[B + 5]? = some (.cells #[.int .i64 60000000000] 3 (0, 0))
  c6 : w.heap[B + 6]? = some (.cells #[.int .i64 0] 3 (0, 0))
  c7 : w.heap[B + 7]? = some (.cells #[.int .i64 16384000000] 3 (0, 0))
  c8 : w.heap[B + 8]? = some (.cells #[.int .i64 0] 3 (0, 0))
  c9 : w.heap[B + 9]? = some (.cells #[.int .i64 20] 3 (0, 0))
  c10 : w.heap[B + 10]? = some (.cells #[.int .i64 2] 3 (0, 0))
  c11 : w.heap[B + 11]? = some (.cells #[.int .i64 256] 3 (0, 0))
  c12 : w.heap[B + 12]? = some (.cells #[.int .i64 0] 3 (0, 0))
  c13 : w.heap[B + 13]? = some (.cells #[.int .i64 10] 3 (0, 0))
def IsRows (w : World) (R : Nat) : Prop := ∃ B, RowsAt w R B
theorem lt_of_heap {w : World} {b : Nat} {o : Obj} (h : w.heap[b]? = some o) : b < w.heap.size := by
  rcases Nat.lt_or_ge b w.heap.size with h' | h'
  · exact h'
  · rw [Array.getElem?_eq_none h'] at h; cases h
theorem keep_heap {w w' : World} {b : Nat} {o : Obj} (hb : Below w.heap.size w w') (h : w.heap[b]? = some o) : w'.heap[b]? = some o := (hb.block b (lt_of_heap h)).trans h
theorem RowsAt.keep {w w' : World} {R B : Nat} (h : RowsAt w R B) (hb : Below w.heap.size w w') : RowsAt w' R B :=
  ⟨keep_heap hb h.tab, keep_heap hb h.c0, keep_heap hb h.c1, keep_heap hb h.c2, keep_heap hb h.c3, keep_heap hb h.c4, keep_heap hb h.c5, keep_heap hb h.c6, keep_heap hb h.c7, keep_heap hb h.c8, keep_heap hb h.c9, keep_heap hb h.c10, keep_heap hb h.c11, keep_heap hb h.c12, keep_heap hb h.c13⟩
theorem IsRows.keep {w w' : World} {R : Nat} (h : IsRows w R) (hb : Below w.heap.size w w') : IsRows w' R := by obtain ⟨B, h⟩ := h; exact ⟨B, h.keep hb⟩
theorem one_at {w : World} {b : Nat} {v : Value} {t : TypeId} {f : Nat × Nat} (h : w.heap[b]? = some (.cells #[v] t f)) : w.cell? ⟨b, 0, none⟩ = some v := by simp [World.cell?, h]
theorem RowsAt.cell {w : World} {R B : Nat} (h : RowsAt w R B) (i : Nat) : w.cell? ⟨R, i, none⟩ = (rowCells B)[i]? := by have := h.tab; simp [World.cell?, this]
theorem RowsAt.r0 {w : World} {R B : Nat} (h : RowsAt w R B) : w.cell? ⟨R, 0, none⟩ = some (.string ⟨#[115, 101, 114, 118, 101, 114]⟩) ∧ w.cell? ⟨R, 1, none⟩ = some (.func (.func 67) #[] #[]) ∧ w.cell? ⟨R, 2, none⟩ = some (.func (.func 97) #[] #[.pointer (some ⟨B, 0, none⟩), .pointer (some ⟨B + 1, 0, none⟩)]) := ⟨h.cell 0, h.cell 1, h.cell 2⟩
theorem RowsAt.r1 {w : World} {R B : Nat} (h : RowsAt w R B) : w.cell? ⟨R, 3, none⟩ = some (.string ⟨#[100, 97, 116, 97, 103, 114, 97, 109]⟩) ∧ w.cell? ⟨R, 4, none⟩ = some (.func (.func 69) #[] #[]) ∧ w.cell? ⟨R, 5, none⟩ = some (.func (.func 97) #[] #[.pointer (some ⟨B + 2, 0, none⟩), .pointer (some ⟨B + 3, 0, none⟩)]) := ⟨h.cell 3, h.cell 4, h.cell 5⟩
theorem RowsAt.r2 {w : World} {R B : Nat} (h : RowsAt w R B) : w.cell? ⟨R, 6, none⟩ = some (.string ⟨#[102, 105, 114, 115, 116]⟩) ∧ w.cell? ⟨R, 7, none⟩ = some (.func (.func 70) #[] #[]) ∧ w.cell? ⟨R, 8, none⟩ = some (.func (.func 71) #[] #[]) := ⟨h.cell 6, h.cell 7, h.cell 8⟩
theorem RowsAt.r3 {w : World} {R B : Nat} (h : RowsAt w R B) : w.cell? ⟨R, 9, none⟩ = some (.string ⟨#[109, 111, 115, 116]⟩) ∧ w.cell? ⟨R, 10, none⟩ = some (.func (.func 72) #[] #[]) ∧ w.cell? ⟨R, 11, none⟩ = some (.func (.func 73) #[] #[]) := ⟨h.cell 9, h.cell 10, h.cell 11⟩
theorem RowsAt.r4 {w : World} {R B : Nat} (h : RowsAt w R B) : w.cell? ⟨R, 12, none⟩ = some (.string ⟨#[114, 116, 116]⟩) ∧ w.cell? ⟨R, 13, none⟩ = some (.func (.func 74) #[] #[]) ∧ w.cell? ⟨R, 14, none⟩ = some (.func (.func 97) #[] #[.pointer (some ⟨B + 4, 0, none⟩), .pointer (some ⟨B + 5, 0, none⟩)]) := ⟨h.cell 12, h.cell 13, h.cell 14⟩
theorem RowsAt.r5 {w : World} {R B : Nat} (h : RowsAt w R B) : w.cell? ⟨R, 15, none⟩ = some (.string ⟨#[100, 101, 108, 97, 121]⟩) ∧ w.cell? ⟨R, 16, none⟩ = some (.func (.func 75) #[] #[]) ∧ w.cell? ⟨R, 17, none⟩ = some (.func (.func 97) #[] #[.pointer (some ⟨B + 6, 0, none⟩), .pointer (some ⟨B + 7, 0, none⟩)]) := ⟨h.cell 15, h.cell 16, h.cell 17⟩
theorem RowsAt.r6 {w : World} {R B : Nat} (h : RowsAt w R B) : w.cell? ⟨R, 18, none⟩ = some (.string ⟨#[101, 120, 112]⟩) ∧ w.cell? ⟨R, 19, none⟩ = some (.func (.func 76) #[] #[]) ∧ w.cell? ⟨R, 20, none⟩ = some (.func (.func 97) #[] #[.pointer (some ⟨B + 8, 0, none⟩), .pointer (some ⟨B + 9, 0, none⟩)]) := ⟨h.cell 18, h.cell 19, h.cell 20⟩
theorem RowsAt.r7 {w : World} {R B : Nat} (h : RowsAt w R B) : w.cell? ⟨R, 21, none⟩ = some (.string ⟨#[98, 117, 114, 115, 116]⟩) ∧ w.cell? ⟨R, 22, none⟩ = some (.func (.func 77) #[] #[]) ∧ w.cell? ⟨R, 23, none⟩ = some (.func (.func 78) #[] #[]) := ⟨h.cell 21, h.cell 22, h.cell 23⟩
theorem RowsAt.r8 {w : World} {R B : Nat} (h : RowsAt w R B) : w.cell? ⟨R, 24, none⟩ = some (.string ⟨#[114, 111, 111, 109]⟩) ∧ w.cell? ⟨R, 25, none⟩ = some (.func (.func 79) #[] #[]) ∧ w.cell? ⟨R, 26, none⟩ = some (.func (.func 97) #[] #[.pointer (some ⟨B + 10, 0, none⟩), .pointer (some ⟨B + 11, 0, none⟩)]) := ⟨h.cell 24, h.cell 25, h.cell 26⟩
theorem RowsAt.r9 {w : World} {R B : Nat} (h : RowsAt w R B) : w.cell? ⟨R, 27, none⟩ = some (.string ⟨#[98, 97, 99, 107, 115]⟩) ∧ w.cell? ⟨R, 28, none⟩ = some (.func (.func 80) #[] #[]) ∧ w.cell? ⟨R, 29, none⟩ = some (.func (.func 97) #[] #[.pointer (some ⟨B + 12, 0, none⟩), .pointer (some ⟨B + 13, 0, none⟩)]) := ⟨h.cell 27, h.cell 28, h.cell 29⟩
theorem rowsAt_made (w : World) : RowsAt (((((((((((((((w.alloc (.cells #[.int .i64 0] 3)).alloc (.cells #[.int .i64 1] 3)).alloc (.cells #[.int .i64 1200] 3)).alloc (.cells #[.int .i64 65527] 3)).alloc (.cells #[.int .i64 1000000] 3)).alloc (.cells #[.int .i64 60000000000] 3)).alloc (.cells #[.int .i64 0] 3)).alloc (.cells #[.int .i64 16384000000] 3)).alloc (.cells #[.int .i64 0] 3)).alloc (.cells #[.int .i64 20] 3)).alloc (.cells #[.int .i64 2] 3)).alloc (.cells #[.int .i64 256] 3)).alloc (.cells #[.int .i64 0] 3)).alloc (.cells #[.int .i64 10] 3)).alloc (.cells (rowCells w.heap.size) 68)) (w.heap.size + 14) w.heap.size := by
  constructor
  · exact heap_at _ (by simp)
  · rw [heap_old _ (by simp <;> omega)]; rw [heap_old _ (by simp <;> omega)]; rw [heap_old _ (by simp <;> omega)]; rw [heap_old _ (by simp <;> omega)]; rw [heap_old _ (by simp <;> omega)]; rw [heap_old _ (by simp <;> omega)]; rw [heap_old _ (by simp <;> omega)]; rw [heap_old _ (by simp <;> omega)]; rw [heap_old _ (by simp <;> omega)]; rw [heap_old _ (by simp <;> omega)]; rw [heap_old _ (by simp <;> omega)]; rw [heap_old _ (by simp <;> omega)]; rw [heap_old _ (by simp <;> omega)]; rw [heap_old _ (by simp <;> omega)]; exact heap_at _ (by simp <;> omega)
  · rw [heap_old _ (by simp <;> omega)]; rw [heap_old _ (by simp <;> omega)]; rw [heap_old _ (by simp <;> omega)]; rw [heap_old _ (by simp <;> omega)]; rw [heap_old _ (by simp <;> omega)]; rw [heap_old _ (by simp <;> omega)]; rw [heap_old _ (by simp <;> omega)]; rw [heap_old _ (by simp <;> omega)]; rw [heap_old _ (by simp <;> omega)]; rw [heap_old _ (by simp <;> omega)]; rw [heap_old _ (by simp <;> omega)]; rw [heap_old _ (by simp <;> omega)]; rw [heap_old _ (by simp <;> omega)]; exact heap_at _ (by simp <;> omega)
  · rw [heap_old _ (by simp <;> omega)]; rw [heap_old _ (by simp <;> omega)]; rw [heap_old _ (by simp <;> omega)]; rw [heap_old _ (by simp <;> omega)]; rw [heap_old _ (by simp <;> omega)]; rw [heap_old _ (by simp <;> omega)]; rw [heap_old _ (by simp <;> omega)]; rw [heap_old _ (by simp <;> omega)]; rw [heap_old _ (by simp <;> omega)]; rw [heap_old _ (by simp <;> omega)]; rw [heap_old _ (by simp <;> omega)]; rw [heap_old _ (by simp <;> omega)]; exact heap_at _ (by simp <;> omega)
  · rw [heap_old _ (by simp <;> omega)]; rw [heap_old _ (by simp <;> omega)]; rw [heap_old _ (by simp <;> omega)]; rw [heap_old _ (by simp <;> omega)]; rw [heap_old _ (by simp <;> omega)]; rw [heap_old _ (by simp <;> omega)]; rw [heap_old _ (by simp <;> omega)]; rw [heap_old _ (by simp <;> omega)]; rw [heap_old _ (by simp <;> omega)]; rw [heap_old _ (by simp <;> omega)]; rw [heap_old _ (by simp <;> omega)]; exact heap_at _ (by simp <;> omega)
  · rw [heap_old _ (by simp <;> omega)]; rw [heap_old _ (by simp <;> omega)]; rw [heap_old _ (by simp <;> omega)]; rw [heap_old _ (by simp <;> omega)]; rw [heap_old _ (by simp <;> omega)]; rw [heap_old _ (by simp <;> omega)]; rw [heap_old _ (by simp <;> omega)]; rw [heap_old _ (by simp <;> omega)]; rw [heap_old _ (by simp <;> omega)]; rw [heap_old _ (by simp <;> omega)]; exact heap_at _ (by simp <;> omega)
  · rw [heap_old _ (by simp <;> omega)]; rw [heap_old _ (by simp <;> omega)]; rw [heap_old _ (by simp <;> omega)]; rw [heap_old _ (by simp <;> omega)]; rw [heap_old _ (by simp <;> omega)]; rw [heap_old _ (by simp <;> omega)]; rw [heap_old _ (by simp <;> omega)]; rw [heap_old _ (by simp <;> omega)]; rw [heap_old _ (by simp <;> omega)]; exact heap_at _ (by simp <;> omega)
  · rw [heap_old _ (by simp <;> omega)]; rw [heap_old _ (by simp <;> omega)]; rw [heap_old _ (by simp <;> omega)]; rw [heap_old _ (by simp <;> omega)]; rw [heap_old _ (by simp <;> omega)]; rw [heap_old _ (by simp <;> omega)]; rw [heap_old _ (by simp <;> omega)]; rw [heap_old _ (by simp <;> omega)]; exact heap_at _ (by simp <;> omega)
  · rw [heap_old _ (by simp <;> omega)]; rw [heap_old _ (by simp <;> omega)]; rw [heap_old _ (by simp <;> omega)]; rw [heap_old _ (by simp <;> omega)]; rw [heap_old _ (by simp <;> omega)]; rw [heap_old _ (by simp <;> omega)]; rw [heap_old _ (by simp <;> omega)]; exact heap_at _ (by simp <;> omega)
  · rw [heap_old _ (by simp <;> omega)]; rw [heap_old _ (by simp <;> omega)]; rw [heap_old _ (by simp <;> omega)]; rw [heap_old _ (by simp <;> omega)]; rw [heap_old _ (by simp <;> omega)]; rw [heap_old _ (by simp <;> omega)]; exact heap_at _ (by simp <;> omega)
  · rw [heap_old _ (by simp <;> omega)]; rw [heap_old _ (by simp <;> omega)]; rw [heap_old _ (by simp <;> omega)]; rw [heap_old _ (by simp <;> omega)]; rw [heap_old _ (by simp <;> omega)]; exact heap_at _ (by simp <;> omega)
  · rw [heap_old _ (by simp <;> omega)]; rw [heap_old _ (by simp <;> omega)]; rw [heap_old _ (by simp <;> omega)]; rw [heap_old _ (by simp <;> omega)]; exact heap_at _ (by simp <;> omega)
  · rw [heap_old _ (by simp <;> omega)]; rw [heap_old _ (by simp <;> omega)]; rw [heap_old _ (by simp <;> omega)]; exact heap_at _ (by simp <;> omega)
  · rw [heap_old _ (by simp <;> omega)]; rw [heap_old _ (by simp <;> omega)]; exact heap_at _ (by simp <;> omega)
  · rw [heap_old _ (by simp <;> omega)]; exact heap_at _ (by simp <;> omega)
set_option maxRecDepth 100000 in
set_option maxHeartbeats 4000000 in
theorem rows_any (w : World) : Calls Tryd.prog 42 #[] w fun e w' => ∃ R, e = .returned (.slice (some ⟨R, 0, none⟩) 10 10) ∧ w.heap.size ≤ R ∧ IsRows w' R ∧ Below w.heap.size w w' := by
  go_enter Tryd.func42, Tryd.ntmps42
  go_wp2_with (go_at_call 68; refine (fixed_any _ _ _).mono ?_; rintro e w' ⟨rfl, rfl⟩)
  go_ret
  refine ⟨w.heap.size + 14, rfl, by omega, ⟨w.heap.size, rowsAt_made w⟩, ?_⟩
  iterate 15 refine Below.alloc ?_ (by first | exact Nat.le_refl _ | (simp <;> omega)) _
  exact Below.refl _ _
end Go.Proofs.YtjhkgoppopfoaaaDoor
