/-
  '==' and '!=' of two arrays of three numbers.
-/
import Derived.Test.YtfebopgljcagnaaProg
import Derived.WalkKit
import Derived.ChangeKeysEq
import Derived.KernelRfl
namespace Go.Proofs.Ytfebopgljcagnaa
open Go.RowKit
set_option linter.unusedVariables false
set_option linter.unusedSimpArgs false

theorem run_eqA_in (t : TypeId) (ht : Try.prog.underlying t = some (.array 3 3)) (a b c x y z : Int) (w : World) :
    (Op.equal t (.agg #[.int .i64 a, .int .i64 b, .int .i64 c]) (.agg #[.int .i64 x, .int .i64 y, .int .i64 z])).run Try.prog w = .ok (a == x && b == y && c == z) w := by
  have hu := Try.underlying3
  have hs : (Try.prog.info? 3).isSome = true := by kernel_rfl
  obtain ⟨i, hi⟩ := Option.isSome_iff_exists.1 hs
  have hc : Try.prog.cellsOf 3 = 1 := by kernel_rfl
  have r3 : List.range 3 = [0, 1, 2] := rfl
  simp only [Op.equal, Op.maxDepth]
  rw [run_equalIn_array w _ _ _ ht hi, hc, r3]
  simp [Op.eqItems, go_sem, hu]
  by_cases h1 : a = x <;> by_cases h2 : b = y <;> by_cases h3 : c = z <;> simp [h1, h2, h3]

theorem run_eqA (t : TypeId) (ht : Try.prog.underlying t = some (.array 3 3)) (a b c x y z : Int) (w : World) :
    (binOp .eql t (.agg #[.int .i64 a, .int .i64 b, .int .i64 c]) (.agg #[.int .i64 x, .int .i64 y, .int .i64 z])).run Try.prog w = .ok (.bool (a == x && b == y && c == z)) w := by
  simp only [binOp, Sem.run_bind, run_eqA_in t ht, Result.andThen_ok, Sem.run_pure]

theorem run_neqA (t : TypeId) (ht : Try.prog.underlying t = some (.array 3 3)) (a b c x y z : Int) (w : World) :
    (binOp .neq t (.agg #[.int .i64 a, .int .i64 b, .int .i64 c]) (.agg #[.int .i64 x, .int .i64 y, .int .i64 z])).run Try.prog w = .ok (.bool (!(a == x && b == y && c == z))) w := by
  simp only [binOp, Sem.run_bind, run_eqA_in t ht, Result.andThen_ok, Sem.run_pure]
end Go.Proofs.Ytfebopgljcagnaa
