/-
  Blocks of three numbers; the contracts at closed numbers.
-/
import Derived.Test.YtfebopgljcagnaaDem
import Derived.Test.YtfebopgljcagnaaEq
import Derived.Lib.QuietBelow
import Derived.BigQuiet
namespace Go.Proofs.Ytfebopgljcagnaa
open Go.RowKit Go.Sort
set_option linter.unusedVariables false
set_option linter.unusedSimpArgs false

/-- A block that holds three numbers. -/
def Is3 (w : World) (b : Nat) (x y z : Int) : Prop :=
  w.cell? ⟨b, 0, none⟩ = some (.int .i64 x) ∧ w.cell? ⟨b, 1, none⟩ = some (.int .i64 y) ∧ w.cell? ⟨b, 2, none⟩ = some (.int .i64 z)
theorem Is3.lt {w : World} {b : Nat} {x y z : Int} (h : Is3 w b x y z) : b < w.heap.size := block_lt_of_cell h.1
theorem keep_cell {W w' : World} {p : Addr} {v : Value} (hb : Below W.heap.size W w') (h : W.cell? p = some v) : w'.cell? p = some v := by
  rw [hb.cell (block_lt_of_cell h)]; exact h
theorem Is3.keep {W w' : World} {b : Nat} {x y z : Int} (h : Is3 W b x y z) (hb : Below W.heap.size W w') : Is3 w' b x y z :=
  ⟨keep_cell hb h.1, keep_cell hb h.2.1, keep_cell hb h.2.2⟩
theorem below_alloc1 (w : World) (o : Obj) : Below w.heap.size w (w.alloc o) := (Below.refl _ _).alloc (Nat.le_refl _) _
theorem Is3.alloc {w : World} {b : Nat} {x y z : Int} (h : Is3 w b x y z) (o : Obj) : Is3 (w.alloc o) b x y z := h.keep (below_alloc1 w o)
theorem Is3.made (w : World) (x y z : Int) (t : TypeId) : Is3 (w.alloc (.cells #[.int .i64 x, .int .i64 y, .int .i64 z] t)) w.heap.size x y z := by
  refine ⟨?_, ?_, ?_⟩ <;> simp [go_sem]

theorem works_demand (a b c s m A B C E : Int) (w : World) (hA : demA a b c s m = A) (hB : demB a b c s m = B) (hC : demC a b c s m = C) (hE : demE a b c s m = E) :
    Calls Try.prog 9 #[.agg #[.int .i64 a, .int .i64 b, .int .i64 c], .int .i64 s, .int .i64 m] w fun e w' => e = .returned (.tuple #[.agg #[.int .i64 A, .int .i64 B, .int .i64 C], .int .i64 E]) ∧ Below w.heap.size w w' :=
  (demand_any a b c s m w).mono fun _ _ h => h.eqs hA hB hC hE
theorem works_take (a b c s A B C E : Int) (w : World) (hA : takA a b c s = A) (hB : takB a b c s = B) (hC : takC a b c s = C) (hE : takE a b c s = E) :
    Calls Try.prog 12 #[.agg #[.int .i64 a, .int .i64 b, .int .i64 c], .int .i64 s] w fun e w' => e = .returned (.tuple #[.agg #[.int .i64 A, .int .i64 B, .int .i64 C], .int .i64 E]) ∧ Below w.heap.size w w' :=
  (take_any a b c s w).mono fun _ _ h => h.eqs hA hB hC hE
theorem works_drop (a b c s A B C E : Int) (w : World) (hA : drpA a b c s = A) (hB : drpB a b c s = B) (hC : drpC a b c s = C) (hE : drpE a b c s = E) :
    Calls Try.prog 14 #[.agg #[.int .i64 a, .int .i64 b, .int .i64 c], .int .i64 s] w fun e w' => e = .returned (.tuple #[.agg #[.int .i64 A, .int .i64 B, .int .i64 C], .int .i64 E]) ∧ Below w.heap.size w w' :=
  (drop_any a b c s w).mono fun _ _ h => h.eqs hA hB hC hE


theorem works_first (a b c V : Int) (w : World) (h : firV a b c = V) :
    Calls Try.prog 18 #[.agg #[.int .i64 a, .int .i64 b, .int .i64 c]] w fun e w' => e = .returned (.int .i64 V) ∧ Below w.heap.size w w' := h ▸ first_any a b c w
theorem works_all (a b c V : Int) (w : World) (h : allV a b c = V) :
    Calls Try.prog 20 #[.agg #[.int .i64 a, .int .i64 b, .int .i64 c]] w fun e w' => e = .returned (.int .i64 V) ∧ Below w.heap.size w w' := h ▸ all_any a b c w

end Go.Proofs.Ytfebopgljcagnaa
