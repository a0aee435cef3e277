/-
  A setting in memory; the contracts of the small functions of package conf: its rows' functions, Default, opened, fixed.
-/
import Derived.Test.YtjhkgoppopfoaaaDoorProg
import Derived.Test.YtjhkgoppopfoaaaDoorCf
import Derived.WalkKit
import Derived.WalkSpells
import Derived.WalkLawsBesides
import Derived.Handy
import Derived.Below
import Derived.ChangeKeysEq
import Derived.KernelRfl
import Derived.BigQuiet
import Derived.Deep.QuietTactic
namespace Go.Proofs.YtjhkgoppopfoaaaDoor
open Go.RowKit
set_option linter.unusedVariables false
set_option linter.unusedSimpArgs false

theorem hide {p : Prop} (h : p) : Hid p := h
theorem below_after {w W w1 : World} (h : Below w.heap.size w W) (hb : Below W.heap.size W w1) : Below w.heap.size w w1 := h.trans (hb.mono h.size)
theorem keep_cell {W w' : World} {p : Addr} {v : Value} (hb : Below W.heap.size W w') (h : W.cell? p = some v) : w'.cell? p = some v := by
  rw [hb.cell (block_lt_of_cell h)]; exact h
theorem below_alloc1 (w : World) (o : Obj) : Below w.heap.size w (w.alloc o) := (Below.refl _ _).alloc (Nat.le_refl _) _

theorem heap_at {w : World} {n : Nat} (o : Obj) (h : n = w.heap.size) : (w.alloc o).heap[n]? = some o := by
  subst h
  show (w.heap.push _)[w.heap.size]? = _
  simp
theorem heap_old {w : World} {n : Nat} (o : Obj) (h : n < w.heap.size) : (w.alloc o).heap[n]? = w.heap[n]? := by
  show (w.heap.push _)[n]? = _
  rw [Array.getElem?_push, if_neg (by omega)]

def Cf.cells (c : Cf) : Array Value := #[.bool c.sv, .int .i64 c.dg, .int .i64 c.fi, .int .i64 c.mo, .int .i64 c.rt, .int .i64 c.md, .int .i64 c.ex, .int .i64 c.bu, .int .i64 c.ro, .int .i64 c.ba]
def Cf.val (c : Cf) : Value := .agg c.cells
/-- Every number is one that an int holds. -/
def Cf.wf (c : Cf) : Prop := ∀ k, -9223372036854775808 ≤ c.num k ∧ c.num k ≤ 9223372036854775807
/-- The ten cells of a setting from block b's first on. -/
structure IsCf (w : World) (b : Nat) (c : Cf) : Prop where
  h0 : w.cell? ⟨b, 0, none⟩ = some (.bool c.sv)
  h1 : w.cell? ⟨b, 1, none⟩ = some (.int .i64 c.dg)
  h2 : w.cell? ⟨b, 2, none⟩ = some (.int .i64 c.fi)
  h3 : w.cell? ⟨b, 3, none⟩ = some (.int .i64 c.mo)
  h4 : w.cell? ⟨b, 4, none⟩ = some (.int .i64 c.rt)
  h5 : w.cell? ⟨b, 5, none⟩ = some (.int .i64 c.md)
  h6 : w.cell? ⟨b, 6, none⟩ = some (.int .i64 c.ex)
  h7 : w.cell? ⟨b, 7, none⟩ = some (.int .i64 c.bu)
  h8 : w.cell? ⟨b, 8, none⟩ = some (.int .i64 c.ro)
  h9 : w.cell? ⟨b, 9, none⟩ = some (.int .i64 c.ba)
theorem IsCf.keep {w w' : World} {b : Nat} {c : Cf} (h : IsCf w b c) (hb : Below w.heap.size w w') : IsCf w' b c :=
  ⟨keep_cell hb h.h0, keep_cell hb h.h1, keep_cell hb h.h2, keep_cell hb h.h3, keep_cell hb h.h4, keep_cell hb h.h5, keep_cell hb h.h6, keep_cell hb h.h7, keep_cell hb h.h8, keep_cell hb h.h9⟩
theorem IsCf.of_block {w : World} {b : Nat} {c : Cf} {t : TypeId} {f : Nat × Nat} (h : w.heap[b]? = some (.cells c.cells t f)) : IsCf w b c := by
  constructor <;> simp [World.cell?, h, Cf.cells]

/-- Where a row's number lies in the fields' block. -/
def offK (k : Nat) : Nat := if k = 0 then 10 else k
/-- The function that gives a row's number's place. -/
def nfK : Nat → Nat
  | 0 => 67
  | 1 => 69
  | 2 => 70
  | 3 => 72
  | 4 => 74
  | 5 => 75
  | 6 => 76
  | 7 => 77
  | 8 => 79
  | _ => 80
set_option maxHeartbeats 400000 in
theorem n_0 (b : Nat) (w : World) : Calls Tryd.prog 67 #[.pointer (some ⟨b, 0, none⟩)] w fun e w' => e = .returned (.pointer (some ⟨b, 10, none⟩)) ∧ w = w' := by
  go_enter Tryd.func67, Tryd.ntmps67
  go_wp2
  go_ret
  exact ⟨rfl, rfl⟩
set_option maxHeartbeats 400000 in
theorem n_1 (b : Nat) (w : World) : Calls Tryd.prog 69 #[.pointer (some ⟨b, 0, none⟩)] w fun e w' => e = .returned (.pointer (some ⟨b, 1, none⟩)) ∧ w = w' := by
  go_enter Tryd.func69, Tryd.ntmps69
  go_wp2
  go_ret
  exact ⟨rfl, rfl⟩
set_option maxHeartbeats 400000 in
theorem n_2 (b : Nat) (w : World) : Calls Tryd.prog 70 #[.pointer (some ⟨b, 0, none⟩)] w fun e w' => e = .returned (.pointer (some ⟨b, 2, none⟩)) ∧ w = w' := by
  go_enter Tryd.func70, Tryd.ntmps70
  go_wp2
  go_ret
  exact ⟨rfl, rfl⟩
set_option maxHeartbeats 400000 in
theorem n_3 (b : Nat) (w : World) : Calls Tryd.prog 72 #[.pointer (some ⟨b, 0, none⟩)] w fun e w' => e = .returned (.pointer (some ⟨b, 3, none⟩)) ∧ w = w' := by
  go_enter Tryd.func72, Tryd.ntmps72
  go_wp2
  go_ret
  exact ⟨rfl, rfl⟩
set_option maxHeartbeats 400000 in
theorem n_4 (b : Nat) (w : World) : Calls Tryd.prog 74 #[.pointer (some ⟨b, 0, none⟩)] w fun e w' => e = .returned (.pointer (some ⟨b, 4, none⟩)) ∧ w = w' := by
  go_enter Tryd.func74, Tryd.ntmps74
  go_wp2
  go_ret
  exact ⟨rfl, rfl⟩
set_option maxHeartbeats 400000 in
theorem n_5 (b : Nat) (w : World) : Calls Tryd.prog 75 #[.pointer (some ⟨b, 0, none⟩)] w fun e w' => e = .returned (.pointer (some ⟨b, 5, none⟩)) ∧ w = w' := by
  go_enter Tryd.func75, Tryd.ntmps75
  go_wp2
  go_ret
  exact ⟨rfl, rfl⟩
set_option maxHeartbeats 400000 in
theorem n_6 (b : Nat) (w : World) : Calls Tryd.prog 76 #[.pointer (some ⟨b, 0, none⟩)] w fun e w' => e = .returned (.pointer (some ⟨b, 6, none⟩)) ∧ w = w' := by
  go_enter Tryd.func76, Tryd.ntmps76
  go_wp2
  go_ret
  exact ⟨rfl, rfl⟩
set_option maxHeartbeats 400000 in
theorem n_7 (b : Nat) (w : World) : Calls Tryd.prog 77 #[.pointer (some ⟨b, 0, none⟩)] w fun e w' => e = .returned (.pointer (some ⟨b, 7, none⟩)) ∧ w = w' := by
  go_enter Tryd.func77, Tryd.ntmps77
  go_wp2
  go_ret
  exact ⟨rfl, rfl⟩
set_option maxHeartbeats 400000 in
theorem n_8 (b : Nat) (w : World) : Calls Tryd.prog 79 #[.pointer (some ⟨b, 0, none⟩)] w fun e w' => e = .returned (.pointer (some ⟨b, 8, none⟩)) ∧ w = w' := by
  go_enter Tryd.func79, Tryd.ntmps79
  go_wp2
  go_ret
  exact ⟨rfl, rfl⟩
set_option maxHeartbeats 400000 in
theorem n_9 (b : Nat) (w : World) : Calls Tryd.prog 80 #[.pointer (some ⟨b, 0, none⟩)] w fun e w' => e = .returned (.pointer (some ⟨b, 9, none⟩)) ∧ w = w' := by
  go_enter Tryd.func80, Tryd.ntmps80
  go_wp2
  go_ret
  exact ⟨rfl, rfl⟩
set_option maxHeartbeats 400000 in
theorem ends_fix (p : Addr) (a b : Nat) (lo hi : Int) (w : World) (ha : w.cell? ⟨a, 0, none⟩ = some (.int .i64 lo)) (hb : w.cell? ⟨b, 0, none⟩ = some (.int .i64 hi)) :
    Calls Tryd.prog 97 #[.pointer (some p), .pointer (some ⟨a, 0, none⟩), .pointer (some ⟨b, 0, none⟩)] w fun e w' => e = .returned (.tuple #[.int .i64 lo, .int .i64 hi]) ∧ ∃ n, w' = w.drewN n := by
  go_enter Tryd.func97, Tryd.ntmps97
  go_wp2
  go_quiet (fail)
  go_wp2
  go_ret2
  exact ⟨rfl, _, rfl⟩
set_option maxHeartbeats 400000 in
theorem ends_2 (b : Nat) (c : Cf) (w : World) (h : IsCf w b c) (h0 : 1200 ≤ c.dg) (h1 : c.dg ≤ 65527) :
    Calls Tryd.prog 71 #[.pointer (some ⟨b, 0, none⟩)] w fun e w' => e = .returned (.tuple #[.int .i64 (2 * c.dg), .int .i64 c.mo]) ∧ ∃ n, w' = w.drewN n := by
  have c1 := h.h1
  have c3 := h.h3
  have e1 : IntKind.i64.wrap (2 * c.dg) = 2 * c.dg := IntWalk.i64_in _ (by omega)
  go_enter Tryd.func71, Tryd.ntmps71
  go_wp2
  go_quiet (fail)
  go_wp2
  go_ret2
  exact ⟨rfl, _, rfl⟩
set_option maxHeartbeats 400000 in
theorem ends_3 (b : Nat) (c : Cf) (w : World) (h : IsCf w b c) (h0 : 1200 ≤ c.dg) (h1 : c.dg ≤ 65527) :
    Calls Tryd.prog 73 #[.pointer (some ⟨b, 0, none⟩)] w fun e w' => e = .returned (.tuple #[.int .i64 (2 * c.dg), .int .i64 1099511627776]) ∧ ∃ n, w' = w.drewN n := by
  have c1 := h.h1
  go_enter Tryd.func73, Tryd.ntmps73
  go_wp2
  go_ret2
  exact ⟨rfl, 0, rfl⟩
set_option maxHeartbeats 400000 in
theorem ends_7 (b : Nat) (c : Cf) (w : World) (h : IsCf w b c) :
    Calls Tryd.prog 78 #[.pointer (some ⟨b, 0, none⟩)] w fun e w' => e = .returned (.tuple #[.int .i64 c.dg, .int .i64 1073741824]) ∧ ∃ n, w' = w.drewN n := by
  have c1 := h.h1
  go_enter Tryd.func78, Tryd.ntmps78
  go_wp2
  go_ret2
  exact ⟨rfl, 0, rfl⟩
set_option maxHeartbeats 400000 in
theorem default_any (sv : Bool) (w : World) : Calls Tryd.prog 39 #[.bool sv] w fun e w' => e = .returned (Cf.dflt sv).val ∧ Below w.heap.size w w' := by
  go_enter Tryd.func39, Tryd.ntmps39
  go_wp2
  exact bodyPost_ret (v := (Cf.dflt sv).val) (by simp [results, Tryd.results39, go_sem, Cf.val, Cf.cells, Cf.dflt]) rfl ⟨rfl, (Below.refl _ _).alloc (Nat.le_refl _) _⟩
/-- The fields' block: a setting, and its server as a number. -/
structure IsFld (w : World) (b : Nat) (c : Cf) (n : Int) : Prop where
  blk : w.heap[b]? = some (.cells (c.cells.push (.int .i64 n)) 93 (0, 0))
theorem IsFld.lt {w : World} {b : Nat} {c : Cf} {n : Int} (h : IsFld w b c n) : b < w.heap.size := by
  have h := h.blk
  rcases Nat.lt_or_ge b w.heap.size with h' | h'
  · exact h'
  · rw [Array.getElem?_eq_none h'] at h; cases h
theorem IsFld.keep {w w' : World} {b : Nat} {c : Cf} {n : Int} (h : IsFld w b c n) (hb : Below w.heap.size w w') : IsFld w' b c n := ⟨(hb.block b h.lt).trans h.blk⟩
theorem IsFld.cf {w : World} {b : Nat} {c : Cf} {n : Int} (h : IsFld w b c n) : IsCf w b c := by
  have h := h.blk
  constructor <;> simp [World.cell?, h, Cf.cells]
theorem IsFld.srv {w : World} {b : Nat} {c : Cf} {n : Int} (h : IsFld w b c n) : w.cell? ⟨b, 10, none⟩ = some (.int .i64 n) := by
  have h := h.blk
  simp [World.cell?, h, Cf.cells]
theorem IsFld.free {w : World} {b : Nat} {c : Cf} {n : Int} (h : IsFld w b c n) (i : Nat) : w.frozen? ⟨b, i, none⟩ = false := by
  have h := h.blk
  simp [World.frozen?, h]
set_option maxHeartbeats 1000000 in
theorem opened_any (c : Cf) (w : World) : Calls Tryd.prog 41 #[c.val] w fun e w' => ∃ b, e = .returned (.pointer (some ⟨b, 0, none⟩)) ∧ w.heap.size ≤ b ∧ IsFld w' b c (b2i c.sv) ∧ Below w.heap.size w w' := by
  obtain ⟨sv, dg, fi, mo, rt, md, ex, bu, ro, ba⟩ := c
  cases sv
  all_goals
    simp only [Cf.val, Cf.cells]
    go_enter Tryd.func41, Tryd.ntmps41
    go_wp2
    go_ret
    refine ⟨w.heap.size + 1, rfl, by omega, ⟨?_⟩, ?_⟩
    · simp only [Cf.cells, b2i]
      exact heap_at _ (by simp)
    · exact ((Below.refl _ _).alloc (Nat.le_refl _) _).alloc (by simp) _
end Go.Proofs.YtjhkgoppopfoaaaDoor
