/-
  The contracts of the document's First and All.
-/
import Derived.Test.YtfebopgljcagnaaThree
namespace Go.Proofs.Ytfebopgljcagnaa
open Go.RowKit
set_option linter.unusedVariables false
set_option linter.unusedSimpArgs false
theorem ret_int {k : IntKind} {a b : Int} (h : a = b) : Ending.returned (.int k a) = .returned (.int k b) := by rw [h]

set_option maxHeartbeats 400000 in
theorem rall_any (a b c : Int) (w : World) : Calls Try.prog 21 #[.agg #[.int .i64 a, .int .i64 b, .int .i64 c]] w fun e w' => e = .returned (.int .i64 (allV a b c)) ∧ Below w.heap.size w w' := by
  by_cases h : ok3 a b c
  · have e1 : allV a b c = a + b + c := by unfold allV; rw [if_pos h]
    rw [e1]; clear e1
    have hx := h
    obtain ⟨a0, a1, b0, b1, c0, c1⟩ := hx
    go_enter Try.func21, Try.ntmps21
    go_wp2_with (go_at_call 17; refine (rcheck_ok _ _ _ _ h).mono ?_; rintro e w1 ⟨rfl, hb⟩; obtain ⟨hc, hf⟩ := bcell hb)
    go_ret
    exact ⟨by simp, below_after (by go_grown) hb⟩
  · have e1 : allV a b c = 0 := by unfold allV; rw [if_neg h]
    rw [e1]; clear e1
    go_enter Try.func21, Try.ntmps21
    go_wp2_with (go_at_call 17; refine (rcheck_bad _ _ _ _ h).mono ?_; rintro e w1 ⟨rfl, hb⟩; obtain ⟨hc, hf⟩ := bcell hb)
    go_ret
    exact ⟨rfl, below_after (by go_grown) hb⟩

set_option maxHeartbeats 1000000 in
theorem rfirst_any (a b c : Int) (w : World) : Calls Try.prog 19 #[.agg #[.int .i64 a, .int .i64 b, .int .i64 c]] w fun e w' => e = .returned (.int .i64 (firV a b c)) ∧ Below w.heap.size w w' := by
  by_cases h : ok3 a b c
  · have k0 := Is3.made w a b c 27
    have bel : Below w.heap.size w (w.alloc (Obj.cells #[.int .i64 a, .int .i64 b, .int .i64 c] 27)) := below_alloc1 _ _
    go_enter Try.func19, Try.ntmps19
    go_wp2_with fail
    refine wp_loop_rounds 4 ?_
    rw [rounds_succ]
    go_wp2_with fail
    refine (rcheck_ok _ _ _ _ h).mono ?_; rintro e w1 ⟨rfl, hb⟩
    replace k0 := k0.keep hb; replace bel := below_after bel hb; clear hb
    have k0a := k0.1; have k0b := k0.2.1; have k0c := k0.2.2; have k0l := k0.lt
    by_cases ha : 0 < a
    · go_wp2
      go_ret
      exact ⟨ret_int (by unfold firV; rw [if_pos h, if_pos ha]), bel⟩
    go_wp2_with fail
    rw [rounds_succ]
    go_wp2_with fail
    refine (rcheck_ok _ _ _ _ h).mono ?_; rintro e w2 ⟨rfl, hb⟩
    replace k0 := k0.keep hb; replace bel := below_after bel hb; clear hb
    clear k0a k0b k0c k0l
    have k0a := k0.1; have k0b := k0.2.1; have k0c := k0.2.2; have k0l := k0.lt
    by_cases hbb : 0 < b
    · go_wp2
      go_ret
      exact ⟨ret_int (by unfold firV; rw [if_pos h, if_neg (by omega : ¬ 0 < a), if_pos hbb]), bel⟩
    go_wp2_with fail
    rw [rounds_succ]
    go_wp2_with fail
    refine (rcheck_ok _ _ _ _ h).mono ?_; rintro e w3 ⟨rfl, hb⟩
    replace k0 := k0.keep hb; replace bel := below_after bel hb; clear hb
    clear k0a k0b k0c k0l
    have k0a := k0.1; have k0b := k0.2.1; have k0c := k0.2.2; have k0l := k0.lt
    by_cases hcc : 0 < c
    · go_wp2
      go_ret
      exact ⟨ret_int (by unfold firV; rw [if_pos h, if_neg (by omega : ¬ 0 < a), if_neg (by omega : ¬ 0 < b), if_pos hcc]), bel⟩
    go_wp2_with fail
    rw [rounds_succ]
    go_wp2
    go_ret
    exact ⟨ret_int (by unfold firV; rw [if_pos h, if_neg (by omega : ¬ 0 < a), if_neg (by omega : ¬ 0 < b), if_neg (by omega : ¬ 0 < c)]), bel⟩
  · have e1 : firV a b c = -1 := by unfold firV; rw [if_neg h]
    rw [e1]; clear e1
    go_enter Try.func19, Try.ntmps19
    go_wp2_with fail
    refine wp_loop_rounds 4 ?_
    rw [rounds_succ]
    go_wp2_with (go_at_call 17; refine (rcheck_bad _ _ _ _ h).mono ?_; rintro e w1 ⟨rfl, hb⟩; obtain ⟨hc, hf⟩ := bcell hb)
    go_ret
    exact ⟨rfl, below_after (by go_grown) hb⟩
end Go.Proofs.Ytfebopgljcagnaa
