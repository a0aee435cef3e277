/-
  The walk of ProbeTells: it answers true whatever is left, and turns nothing that was there.
-/
import Derived.Test.YtfebopgljcagnaaWorks
import Derived.Test.YtfebopgljcagnaaRef
namespace Go.Proofs.Ytfebopgljcagnaa
open Go.RowKit Go.Sort
set_option linter.unusedVariables false
set_option linter.unusedSimpArgs false

set_option maxHeartbeats 4000000 in
theorem tells_any (a b c s m : Int) (w : World) : Calls Try.prog 3 #[.agg #[.int .i64 a, .int .i64 b, .int .i64 c], .int .i64 s, .int .i64 m] w fun e w' => e = .returned (.bool true) ∧ Below w.heap.size w w' := by
  have qn := run_neqA 27 Try.underlying27
  go_enter Try.func3, Try.ntmps3
  go_wp2_with fail
  refine (demand_any a b c s m _).mono ?_; rintro e w1 ⟨rfl, hb⟩
  have k7 := (Is3.made (w.alloc (Obj.cells #[.int .i64 a, .int .i64 b, .int .i64 c] 22)) a b c 23).keep hb
  have k7 : Is3 w1 (w.heap.size + 1) a b c := by simpa using k7
  have bel : Below w.heap.size w w1 := below_after (((Below.refl _ _).alloc (Nat.le_refl _) _).alloc (by simp) _) hb
  clear hb
  try clear k7a k7b k7c k7l
  have k7a := k7.1; have k7b := k7.2.1; have k7c := k7.2.2; have k7l := k7.lt
  go_wp2_with fail
  refine (own_any a b c _).mono ?_; rintro e w2 ⟨rfl, hb⟩
  replace k7 := (k7.alloc (Obj.cells #[.int .i64 (demA a b c s m), .int .i64 (demB a b c s m), .int .i64 (demC a b c s m)] 23)).keep hb
  have k8 := (Is3.made w1 (demA a b c s m) (demB a b c s m) (demC a b c s m) 23).keep hb
  replace bel := below_after (bel.alloc bel.size (Obj.cells #[.int .i64 (demA a b c s m), .int .i64 (demB a b c s m), .int .i64 (demC a b c s m)] 23)) hb
  clear hb
  try clear k7a k7b k7c k7l
  have k7a := k7.1; have k7b := k7.2.1; have k7c := k7.2.2; have k7l := k7.lt
  try clear k8a k8b k8c k8l
  have k8a := k8.1; have k8b := k8.2.1; have k8c := k8.2.2; have k8l := k8.lt
  go_wp2_with fail
  refine (rdemand_any a b c s m _).mono ?_; rintro e w3 ⟨rfl, hb⟩
  replace k7 := k7.keep hb
  replace k8 := k8.keep hb
  replace bel := below_after bel hb
  clear hb
  try clear k7a k7b k7c k7l
  have k7a := k7.1; have k7b := k7.2.1; have k7c := k7.2.2; have k7l := k7.lt
  try clear k8a k8b k8c k8l
  have k8a := k8.1; have k8b := k8.2.1; have k8c := k8.2.2; have k8l := k8.lt
  go_wp2_with fail
  refine (take_any a b c s _).mono ?_; rintro e w4 ⟨rfl, hb⟩
  replace k7 := (k7.alloc (Obj.cells #[.int .i64 (demA a b c s m), .int .i64 (demB a b c s m), .int .i64 (demC a b c s m)] 27)).keep hb
  replace k8 := (k8.alloc (Obj.cells #[.int .i64 (demA a b c s m), .int .i64 (demB a b c s m), .int .i64 (demC a b c s m)] 27)).keep hb
  have k10 := (Is3.made w3 (demA a b c s m) (demB a b c s m) (demC a b c s m) 27).keep hb
  replace bel := below_after (bel.alloc bel.size (Obj.cells #[.int .i64 (demA a b c s m), .int .i64 (demB a b c s m), .int .i64 (demC a b c s m)] 27)) hb
  clear hb
  try clear k7a k7b k7c k7l
  have k7a := k7.1; have k7b := k7.2.1; have k7c := k7.2.2; have k7l := k7.lt
  try clear k8a k8b k8c k8l
  have k8a := k8.1; have k8b := k8.2.1; have k8c := k8.2.2; have k8l := k8.lt
  try clear k10a k10b k10c k10l
  have k10a := k10.1; have k10b := k10.2.1; have k10c := k10.2.2; have k10l := k10.lt
  go_wp2_with fail
  refine (own_any a b c _).mono ?_; rintro e w5 ⟨rfl, hb⟩
  replace k7 := (k7.alloc (Obj.cells #[.int .i64 (takA a b c s), .int .i64 (takB a b c s), .int .i64 (takC a b c s)] 23)).keep hb
  replace k8 := (k8.alloc (Obj.cells #[.int .i64 (takA a b c s), .int .i64 (takB a b c s), .int .i64 (takC a b c s)] 23)).keep hb
  replace k10 := (k10.alloc (Obj.cells #[.int .i64 (takA a b c s), .int .i64 (takB a b c s), .int .i64 (takC a b c s)] 23)).keep hb
  have k12 := (Is3.made w4 (takA a b c s) (takB a b c s) (takC a b c s) 23).keep hb
  replace bel := below_after (bel.alloc bel.size (Obj.cells #[.int .i64 (takA a b c s), .int .i64 (takB a b c s), .int .i64 (takC a b c s)] 23)) hb
  clear hb
  try clear k7a k7b k7c k7l
  have k7a := k7.1; have k7b := k7.2.1; have k7c := k7.2.2; have k7l := k7.lt
  try clear k8a k8b k8c k8l
  have k8a := k8.1; have k8b := k8.2.1; have k8c := k8.2.2; have k8l := k8.lt
  try clear k10a k10b k10c k10l
  have k10a := k10.1; have k10b := k10.2.1; have k10c := k10.2.2; have k10l := k10.lt
  try clear k12a k12b k12c k12l
  have k12a := k12.1; have k12b := k12.2.1; have k12c := k12.2.2; have k12l := k12.lt
  go_wp2_with fail
  refine (rtake_any a b c s _).mono ?_; rintro e w6 ⟨rfl, hb⟩
  replace k7 := k7.keep hb
  replace k8 := k8.keep hb
  replace k10 := k10.keep hb
  replace k12 := k12.keep hb
  replace bel := below_after bel hb
  clear hb
  try clear k7a k7b k7c k7l
  have k7a := k7.1; have k7b := k7.2.1; have k7c := k7.2.2; have k7l := k7.lt
  try clear k8a k8b k8c k8l
  have k8a := k8.1; have k8b := k8.2.1; have k8c := k8.2.2; have k8l := k8.lt
  try clear k10a k10b k10c k10l
  have k10a := k10.1; have k10b := k10.2.1; have k10c := k10.2.2; have k10l := k10.lt
  try clear k12a k12b k12c k12l
  have k12a := k12.1; have k12b := k12.2.1; have k12c := k12.2.2; have k12l := k12.lt
  go_wp2_with fail
  refine (drop_any a b c s _).mono ?_; rintro e w7 ⟨rfl, hb⟩
  replace k7 := (k7.alloc (Obj.cells #[.int .i64 (takA a b c s), .int .i64 (takB a b c s), .int .i64 (takC a b c s)] 27)).keep hb
  replace k8 := (k8.alloc (Obj.cells #[.int .i64 (takA a b c s), .int .i64 (takB a b c s), .int .i64 (takC a b c s)] 27)).keep hb
  replace k10 := (k10.alloc (Obj.cells #[.int .i64 (takA a b c s), .int .i64 (takB a b c s), .int .i64 (takC a b c s)] 27)).keep hb
  replace k12 := (k12.alloc (Obj.cells #[.int .i64 (takA a b c s), .int .i64 (takB a b c s), .int .i64 (takC a b c s)] 27)).keep hb
  have k14 := (Is3.made w6 (takA a b c s) (takB a b c s) (takC a b c s) 27).keep hb
  replace bel := below_after (bel.alloc bel.size (Obj.cells #[.int .i64 (takA a b c s), .int .i64 (takB a b c s), .int .i64 (takC a b c s)] 27)) hb
  clear hb
  try clear k7a k7b k7c k7l
  have k7a := k7.1; have k7b := k7.2.1; have k7c := k7.2.2; have k7l := k7.lt
  try clear k8a k8b k8c k8l
  have k8a := k8.1; have k8b := k8.2.1; have k8c := k8.2.2; have k8l := k8.lt
  try clear k10a k10b k10c k10l
  have k10a := k10.1; have k10b := k10.2.1; have k10c := k10.2.2; have k10l := k10.lt
  try clear k12a k12b k12c k12l
  have k12a := k12.1; have k12b := k12.2.1; have k12c := k12.2.2; have k12l := k12.lt
  try clear k14a k14b k14c k14l
  have k14a := k14.1; have k14b := k14.2.1; have k14c := k14.2.2; have k14l := k14.lt
  go_wp2_with fail
  refine (own_any a b c _).mono ?_; rintro e w8 ⟨rfl, hb⟩
  replace k7 := (k7.alloc (Obj.cells #[.int .i64 (drpA a b c s), .int .i64 (drpB a b c s), .int .i64 (drpC a b c s)] 23)).keep hb
  replace k8 := (k8.alloc (Obj.cells #[.int .i64 (drpA a b c s), .int .i64 (drpB a b c s), .int .i64 (drpC a b c s)] 23)).keep hb
  replace k10 := (k10.alloc (Obj.cells #[.int .i64 (drpA a b c s), .int .i64 (drpB a b c s), .int .i64 (drpC a b c s)] 23)).keep hb
  replace k12 := (k12.alloc (Obj.cells #[.int .i64 (drpA a b c s), .int .i64 (drpB a b c s), .int .i64 (drpC a b c s)] 23)).keep hb
  replace k14 := (k14.alloc (Obj.cells #[.int .i64 (drpA a b c s), .int .i64 (drpB a b c s), .int .i64 (drpC a b c s)] 23)).keep hb
  have k16 := (Is3.made w7 (drpA a b c s) (drpB a b c s) (drpC a b c s) 23).keep hb
  replace bel := below_after (bel.alloc bel.size (Obj.cells #[.int .i64 (drpA a b c s), .int .i64 (drpB a b c s), .int .i64 (drpC a b c s)] 23)) hb
  clear hb
  try clear k7a k7b k7c k7l
  have k7a := k7.1; have k7b := k7.2.1; have k7c := k7.2.2; have k7l := k7.lt
  try clear k8a k8b k8c k8l
  have k8a := k8.1; have k8b := k8.2.1; have k8c := k8.2.2; have k8l := k8.lt
  try clear k10a k10b k10c k10l
  have k10a := k10.1; have k10b := k10.2.1; have k10c := k10.2.2; have k10l := k10.lt
  try clear k12a k12b k12c k12l
  have k12a := k12.1; have k12b := k12.2.1; have k12c := k12.2.2; have k12l := k12.lt
  try clear k14a k14b k14c k14l
  have k14a := k14.1; have k14b := k14.2.1; have k14c := k14.2.2; have k14l := k14.lt
  try clear k16a k16b k16c k16l
  have k16a := k16.1; have k16b := k16.2.1; have k16c := k16.2.2; have k16l := k16.lt
  go_wp2_with fail
  refine (rdrop_any a b c s _).mono ?_; rintro e w9 ⟨rfl, hb⟩
  replace k7 := k7.keep hb
  replace k8 := k8.keep hb
  replace k10 := k10.keep hb
  replace k12 := k12.keep hb
  replace k14 := k14.keep hb
  replace k16 := k16.keep hb
  replace bel := below_after bel hb
  clear hb
  try clear k7a k7b k7c k7l
  have k7a := k7.1; have k7b := k7.2.1; have k7c := k7.2.2; have k7l := k7.lt
  try clear k8a k8b k8c k8l
  have k8a := k8.1; have k8b := k8.2.1; have k8c := k8.2.2; have k8l := k8.lt
  try clear k10a k10b k10c k10l
  have k10a := k10.1; have k10b := k10.2.1; have k10c := k10.2.2; have k10l := k10.lt
  try clear k12a k12b k12c k12l
  have k12a := k12.1; have k12b := k12.2.1; have k12c := k12.2.2; have k12l := k12.lt
  try clear k14a k14b k14c k14l
  have k14a := k14.1; have k14b := k14.2.1; have k14c := k14.2.2; have k14l := k14.lt
  try clear k16a k16b k16c k16l
  have k16a := k16.1; have k16b := k16.2.1; have k16c := k16.2.2; have k16l := k16.lt
  go_wp2_with fail
  replace k7 := k7.alloc (Obj.cells #[.int .i64 (drpA a b c s), .int .i64 (drpB a b c s), .int .i64 (drpC a b c s)] 27)
  replace k8 := k8.alloc (Obj.cells #[.int .i64 (drpA a b c s), .int .i64 (drpB a b c s), .int .i64 (drpC a b c s)] 27)
  replace k10 := k10.alloc (Obj.cells #[.int .i64 (drpA a b c s), .int .i64 (drpB a b c s), .int .i64 (drpC a b c s)] 27)
  replace k12 := k12.alloc (Obj.cells #[.int .i64 (drpA a b c s), .int .i64 (drpB a b c s), .int .i64 (drpC a b c s)] 27)
  replace k14 := k14.alloc (Obj.cells #[.int .i64 (drpA a b c s), .int .i64 (drpB a b c s), .int .i64 (drpC a b c s)] 27)
  replace k16 := k16.alloc (Obj.cells #[.int .i64 (drpA a b c s), .int .i64 (drpB a b c s), .int .i64 (drpC a b c s)] 27)
  have k18 := Is3.made w9 (drpA a b c s) (drpB a b c s) (drpC a b c s) 27
  replace bel := bel.alloc bel.size (Obj.cells #[.int .i64 (drpA a b c s), .int .i64 (drpB a b c s), .int .i64 (drpC a b c s)] 27)
  try clear k7a k7b k7c k7l
  try clear k8a k8b k8c k8l
  try clear k10a k10b k10c k10l
  try clear k12a k12b k12c k12l
  try clear k14a k14b k14c k14l
  try clear k16a k16b k16c k16l
  try clear k18a k18b k18c k18l
  obtain ⟨W, hW⟩ : ∃ W, W = w9.alloc (Obj.cells #[.int .i64 (drpA a b c s), .int .i64 (drpB a b c s), .int .i64 (drpC a b c s)] 27) := ⟨_, rfl⟩
  simp only [← hW] at k7 k8 k10 k12 k14 k16 k18 bel ⊢
  clear hW
  have k8a := cell_regrown k8.1; have k8b := cell_regrown k8.2.1; have k8c := cell_regrown k8.2.2
  have k10a := cell_regrown k10.1; have k10b := cell_regrown k10.2.1; have k10c := cell_regrown k10.2.2
  have k12a := cell_regrown k12.1; have k12b := cell_regrown k12.2.1; have k12c := cell_regrown k12.2.2
  have k14a := cell_regrown k14.1; have k14b := cell_regrown k14.2.1; have k14c := cell_regrown k14.2.2
  have k16a := cell_regrown k16.1; have k16b := cell_regrown k16.2.1; have k16c := cell_regrown k16.2.2
  have k18a := cell_regrown k18.1; have k18b := cell_regrown k18.2.1; have k18c := cell_regrown k18.2.2
  refine wp_region_quiet_below (by kernel_rfl) (by kernel_rfl) ?_
  repeat (first | go_big_quiet_step (exact Calls.regrown_of (own_any _ _ _ _)) | quiet_step (exact Calls.regrown_of (own_any _ _ _ _)))
  refine wpQuiet_nil ?_
  intro W2 hw2
  obtain ⟨⟨dq, osq⟩, hw3⟩ := hw2
  have hbq : Below W.heap.size W W2 := by rw [hw3]; exact below_regrown W dq osq
  clear hw3 k8a k8b k8c k10a k10b k10c k12a k12b k12c k14a k14b k14c k16a k16b k16c k18a k18b k18c k8 k10 k12 k14 k16 k18
  replace k7 := k7.keep hbq
  replace bel := below_after bel hbq
  clear hbq
  have k7a := k7.1; have k7b := k7.2.1; have k7c := k7.2.2
  go_wp2_with fail
  have k7a := cell_regrown k7a; have k7b := cell_regrown k7b; have k7c := cell_regrown k7c
  refine wp_region_quiet_below (by kernel_rfl) (by kernel_rfl) ?_
  repeat (first
    | go_big_quiet_step (first | (go_at_call 11; exact Calls.regrown_of (own_any _ _ _ _)) | (go_at_call 16; exact Calls.regrown_of (check_any _ _ _ _)) | (go_at_call 17; exact Calls.regrown_of (rcheck_any _ _ _ _)) | (go_at_call 18; exact Calls.regrown_of (first_any _ _ _ _)) | (go_at_call 19; exact Calls.regrown_of (rfirst_any _ _ _ _)) | (go_at_call 20; exact Calls.regrown_of (all_any _ _ _ _)) | (go_at_call 21; exact Calls.regrown_of (rall_any _ _ _ _)) | (go_at_call 22; exact Calls.regrown_of (works_any _))))
  refine wpQuiet_nil ?_
  intro W3 hw2
  obtain ⟨⟨dq, osq⟩, hw3⟩ := hw2
  have hbq : Below W2.heap.size W2 W3 := by rw [hw3]; exact below_regrown W2 dq osq
  clear hw3
  replace bel := below_after bel hbq
  go_wp2
  go_ret
  exact ⟨rfl, bel⟩

end Go.Proofs.Ytfebopgljcagnaa
