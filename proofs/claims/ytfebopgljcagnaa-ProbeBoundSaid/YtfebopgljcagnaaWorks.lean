/-
  The chapter's example ('works') answers true, and turns nothing that was there.
-/
import Derived.Test.YtfebopgljcagnaaThree
namespace Go.Proofs.Ytfebopgljcagnaa
open Go.RowKit Go.Sort
set_option linter.unusedVariables false
set_option linter.unusedSimpArgs false

set_option maxHeartbeats 2000000 in
theorem works_any (w : World) : Calls Try.prog 22 #[] w fun e w' => e = .returned (.bool true) ∧ Below w.heap.size w w' := by
  have qe := run_eqA 23 Try.underlying23
  have qn := run_neqA 23 Try.underlying23
  go_enter Try.func22, Try.ntmps22
  go_wp2_with fail
  refine (works_demand 0 0 0 1 2 0 2 0 0 _ (by decide) (by decide) (by decide) (by decide)).mono ?_; rintro e w1 ⟨rfl, hb⟩
  have bel : Below w.heap.size w w1 := hb
  clear hb
  go_wp2_with fail
  refine (works_take 0 2 0 1 0 1 0 0 _ (by decide) (by decide) (by decide) (by decide)).mono ?_; rintro e w2 ⟨rfl, hb⟩
  have k1 := (Is3.made w1 0 2 0 23).keep hb
  replace bel := below_after (bel.alloc bel.size (Obj.cells #[.int .i64 0, .int .i64 2, .int .i64 0] 23)) hb
  clear hb
  try clear k1a k1b k1c k1l
  have k1a := k1.1; have k1b := k1.2.1; have k1c := k1.2.2; have k1l := k1.lt
  go_wp2_with fail
  refine (works_demand 0 1 0 1 1 0 1 0 0 _ (by decide) (by decide) (by decide) (by decide)).mono ?_; rintro e w3 ⟨rfl, hb⟩
  replace k1 := (k1.alloc (Obj.cells #[.int .i64 0, .int .i64 1, .int .i64 0] 23)).keep hb
  have k3 := (Is3.made w2 0 1 0 23).keep hb
  replace bel := below_after (bel.alloc bel.size (Obj.cells #[.int .i64 0, .int .i64 1, .int .i64 0] 23)) hb
  clear hb
  try clear k1a k1b k1c k1l
  have k1a := k1.1; have k1b := k1.2.1; have k1c := k1.2.2; have k1l := k1.lt
  try clear k3a k3b k3c k3l
  have k3a := k3.1; have k3b := k3.2.1; have k3c := k3.2.2; have k3l := k3.lt
  go_wp2_with fail
  refine (works_demand 0 1 0 0 1 1 1 0 0 _ (by decide) (by decide) (by decide) (by decide)).mono ?_; rintro e w4 ⟨rfl, hb⟩
  replace k1 := (k1.alloc (Obj.cells #[.int .i64 0, .int .i64 1, .int .i64 0] 23)).keep hb
  replace k3 := (k3.alloc (Obj.cells #[.int .i64 0, .int .i64 1, .int .i64 0] 23)).keep hb
  have k5 := (Is3.made w3 0 1 0 23).keep hb
  replace bel := below_after (bel.alloc bel.size (Obj.cells #[.int .i64 0, .int .i64 1, .int .i64 0] 23)) hb
  clear hb
  try clear k1a k1b k1c k1l
  have k1a := k1.1; have k1b := k1.2.1; have k1c := k1.2.2; have k1l := k1.lt
  try clear k3a k3b k3c k3l
  have k3a := k3.1; have k3b := k3.2.1; have k3c := k3.2.2; have k3l := k3.lt
  try clear k5a k5b k5c k5l
  have k5a := k5.1; have k5b := k5.2.1; have k5c := k5.2.2; have k5l := k5.lt
  go_wp2_with fail
  refine (works_take 1 1 0 2 0 0 0 5 _ (by decide) (by decide) (by decide) (by decide)).mono ?_; rintro e w5 ⟨rfl, hb⟩
  replace k1 := (k1.alloc (Obj.cells #[.int .i64 1, .int .i64 1, .int .i64 0] 23)).keep hb
  replace k3 := (k3.alloc (Obj.cells #[.int .i64 1, .int .i64 1, .int .i64 0] 23)).keep hb
  replace k5 := (k5.alloc (Obj.cells #[.int .i64 1, .int .i64 1, .int .i64 0] 23)).keep hb
  have k7 := (Is3.made w4 1 1 0 23).keep hb
  replace bel := below_after (bel.alloc bel.size (Obj.cells #[.int .i64 1, .int .i64 1, .int .i64 0] 23)) hb
  clear hb
  try clear k1a k1b k1c k1l
  have k1a := k1.1; have k1b := k1.2.1; have k1c := k1.2.2; have k1l := k1.lt
  try clear k3a k3b k3c k3l
  have k3a := k3.1; have k3b := k3.2.1; have k3c := k3.2.2; have k3l := k3.lt
  try clear k5a k5b k5c k5l
  have k5a := k5.1; have k5b := k5.2.1; have k5c := k5.2.2; have k5l := k5.lt
  try clear k7a k7b k7c k7l
  have k7a := k7.1; have k7b := k7.2.1; have k7c := k7.2.2; have k7l := k7.lt
  go_wp2_with fail
  refine (works_drop 1 1 0 1 1 0 0 0 _ (by decide) (by decide) (by decide) (by decide)).mono ?_; rintro e w6 ⟨rfl, hb⟩
  replace k1 := (k1.alloc (Obj.cells #[.int .i64 0, .int .i64 0, .int .i64 0] 23)).keep hb
  replace k3 := (k3.alloc (Obj.cells #[.int .i64 0, .int .i64 0, .int .i64 0] 23)).keep hb
  replace k5 := (k5.alloc (Obj.cells #[.int .i64 0, .int .i64 0, .int .i64 0] 23)).keep hb
  replace k7 := (k7.alloc (Obj.cells #[.int .i64 0, .int .i64 0, .int .i64 0] 23)).keep hb
  have k9 := (Is3.made w5 0 0 0 23).keep hb
  replace bel := below_after (bel.alloc bel.size (Obj.cells #[.int .i64 0, .int .i64 0, .int .i64 0] 23)) hb
  clear hb
  try clear k1a k1b k1c k1l
  have k1a := k1.1; have k1b := k1.2.1; have k1c := k1.2.2; have k1l := k1.lt
  try clear k3a k3b k3c k3l
  have k3a := k3.1; have k3b := k3.2.1; have k3c := k3.2.2; have k3l := k3.lt
  try clear k5a k5b k5c k5l
  have k5a := k5.1; have k5b := k5.2.1; have k5c := k5.2.2; have k5l := k5.lt
  try clear k7a k7b k7c k7l
  have k7a := k7.1; have k7b := k7.2.1; have k7c := k7.2.2; have k7l := k7.lt
  try clear k9a k9b k9c k9l
  have k9a := k9.1; have k9b := k9.2.1; have k9c := k9.2.2; have k9l := k9.lt
  go_wp2_with fail
  refine (works_demand 1 1 0 3 1 0 0 0 160 _ (by decide) (by decide) (by decide) (by decide)).mono ?_; rintro e w7 ⟨rfl, hb⟩
  replace k1 := (k1.alloc (Obj.cells #[.int .i64 1, .int .i64 0, .int .i64 0] 23)).keep hb
  replace k3 := (k3.alloc (Obj.cells #[.int .i64 1, .int .i64 0, .int .i64 0] 23)).keep hb
  replace k5 := (k5.alloc (Obj.cells #[.int .i64 1, .int .i64 0, .int .i64 0] 23)).keep hb
  replace k7 := (k7.alloc (Obj.cells #[.int .i64 1, .int .i64 0, .int .i64 0] 23)).keep hb
  replace k9 := (k9.alloc (Obj.cells #[.int .i64 1, .int .i64 0, .int .i64 0] 23)).keep hb
  have k11 := (Is3.made w6 1 0 0 23).keep hb
  replace bel := below_after (bel.alloc bel.size (Obj.cells #[.int .i64 1, .int .i64 0, .int .i64 0] 23)) hb
  clear hb
  try clear k1a k1b k1c k1l
  have k1a := k1.1; have k1b := k1.2.1; have k1c := k1.2.2; have k1l := k1.lt
  try clear k3a k3b k3c k3l
  have k3a := k3.1; have k3b := k3.2.1; have k3c := k3.2.2; have k3l := k3.lt
  try clear k5a k5b k5c k5l
  have k5a := k5.1; have k5b := k5.2.1; have k5c := k5.2.2; have k5l := k5.lt
  try clear k7a k7b k7c k7l
  have k7a := k7.1; have k7b := k7.2.1; have k7c := k7.2.2; have k7l := k7.lt
  try clear k9a k9b k9c k9l
  have k9a := k9.1; have k9b := k9.2.1; have k9c := k9.2.2; have k9l := k9.lt
  try clear k11a k11b k11c k11l
  have k11a := k11.1; have k11b := k11.2.1; have k11c := k11.2.2; have k11l := k11.lt
  go_wp2_with fail
  refine (works_demand 1 1 0 0 3 0 0 0 2 _ (by decide) (by decide) (by decide) (by decide)).mono ?_; rintro e w8 ⟨rfl, hb⟩
  replace k1 := (k1.alloc (Obj.cells #[.int .i64 0, .int .i64 0, .int .i64 0] 23)).keep hb
  replace k3 := (k3.alloc (Obj.cells #[.int .i64 0, .int .i64 0, .int .i64 0] 23)).keep hb
  replace k5 := (k5.alloc (Obj.cells #[.int .i64 0, .int .i64 0, .int .i64 0] 23)).keep hb
  replace k7 := (k7.alloc (Obj.cells #[.int .i64 0, .int .i64 0, .int .i64 0] 23)).keep hb
  replace k9 := (k9.alloc (Obj.cells #[.int .i64 0, .int .i64 0, .int .i64 0] 23)).keep hb
  replace k11 := (k11.alloc (Obj.cells #[.int .i64 0, .int .i64 0, .int .i64 0] 23)).keep hb
  have k13 := (Is3.made w7 0 0 0 23).keep hb
  replace bel := below_after (bel.alloc bel.size (Obj.cells #[.int .i64 0, .int .i64 0, .int .i64 0] 23)) hb
  clear hb
  try clear k1a k1b k1c k1l
  have k1a := k1.1; have k1b := k1.2.1; have k1c := k1.2.2; have k1l := k1.lt
  try clear k3a k3b k3c k3l
  have k3a := k3.1; have k3b := k3.2.1; have k3c := k3.2.2; have k3l := k3.lt
  try clear k5a k5b k5c k5l
  have k5a := k5.1; have k5b := k5.2.1; have k5c := k5.2.2; have k5l := k5.lt
  try clear k7a k7b k7c k7l
  have k7a := k7.1; have k7b := k7.2.1; have k7c := k7.2.2; have k7l := k7.lt
  try clear k9a k9b k9c k9l
  have k9a := k9.1; have k9b := k9.2.1; have k9c := k9.2.2; have k9l := k9.lt
  try clear k11a k11b k11c k11l
  have k11a := k11.1; have k11b := k11.2.1; have k11c := k11.2.2; have k11l := k11.lt
  try clear k13a k13b k13c k13l
  have k13a := k13.1; have k13b := k13.2.1; have k13c := k13.2.2; have k13l := k13.lt
  go_wp2_with fail
  refine (works_first 1 1 0 0 _ (by decide)).mono ?_; rintro e w9 ⟨rfl, hb⟩
  replace k1 := (k1.alloc (Obj.cells #[.int .i64 0, .int .i64 0, .int .i64 0] 23)).keep hb
  replace k3 := (k3.alloc (Obj.cells #[.int .i64 0, .int .i64 0, .int .i64 0] 23)).keep hb
  replace k5 := (k5.alloc (Obj.cells #[.int .i64 0, .int .i64 0, .int .i64 0] 23)).keep hb
  replace k7 := (k7.alloc (Obj.cells #[.int .i64 0, .int .i64 0, .int .i64 0] 23)).keep hb
  replace k9 := (k9.alloc (Obj.cells #[.int .i64 0, .int .i64 0, .int .i64 0] 23)).keep hb
  replace k11 := (k11.alloc (Obj.cells #[.int .i64 0, .int .i64 0, .int .i64 0] 23)).keep hb
  replace k13 := (k13.alloc (Obj.cells #[.int .i64 0, .int .i64 0, .int .i64 0] 23)).keep hb
  have k15 := (Is3.made w8 0 0 0 23).keep hb
  replace bel := below_after (bel.alloc bel.size (Obj.cells #[.int .i64 0, .int .i64 0, .int .i64 0] 23)) hb
  clear hb
  try clear k1a k1b k1c k1l
  have k1a := k1.1; have k1b := k1.2.1; have k1c := k1.2.2; have k1l := k1.lt
  try clear k3a k3b k3c k3l
  have k3a := k3.1; have k3b := k3.2.1; have k3c := k3.2.2; have k3l := k3.lt
  try clear k5a k5b k5c k5l
  have k5a := k5.1; have k5b := k5.2.1; have k5c := k5.2.2; have k5l := k5.lt
  try clear k7a k7b k7c k7l
  have k7a := k7.1; have k7b := k7.2.1; have k7c := k7.2.2; have k7l := k7.lt
  try clear k9a k9b k9c k9l
  have k9a := k9.1; have k9b := k9.2.1; have k9c := k9.2.2; have k9l := k9.lt
  try clear k11a k11b k11c k11l
  have k11a := k11.1; have k11b := k11.2.1; have k11c := k11.2.2; have k11l := k11.lt
  try clear k13a k13b k13c k13l
  have k13a := k13.1; have k13b := k13.2.1; have k13c := k13.2.2; have k13l := k13.lt
  try clear k15a k15b k15c k15l
  have k15a := k15.1; have k15b := k15.2.1; have k15c := k15.2.2; have k15l := k15.lt
  go_wp2_with fail
  refine (works_all 1 1 0 2 _ (by decide)).mono ?_; rintro e w10 ⟨rfl, hb⟩
  replace k1 := k1.keep hb
  replace k3 := k3.keep hb
  replace k5 := k5.keep hb
  replace k7 := k7.keep hb
  replace k9 := k9.keep hb
  replace k11 := k11.keep hb
  replace k13 := k13.keep hb
  replace k15 := k15.keep hb
  replace bel := below_after bel hb
  clear hb
  try clear k1a k1b k1c k1l
  have k1a := k1.1; have k1b := k1.2.1; have k1c := k1.2.2; have k1l := k1.lt
  try clear k3a k3b k3c k3l
  have k3a := k3.1; have k3b := k3.2.1; have k3c := k3.2.2; have k3l := k3.lt
  try clear k5a k5b k5c k5l
  have k5a := k5.1; have k5b := k5.2.1; have k5c := k5.2.2; have k5l := k5.lt
  try clear k7a k7b k7c k7l
  have k7a := k7.1; have k7b := k7.2.1; have k7c := k7.2.2; have k7l := k7.lt
  try clear k9a k9b k9c k9l
  have k9a := k9.1; have k9b := k9.2.1; have k9c := k9.2.2; have k9l := k9.lt
  try clear k11a k11b k11c k11l
  have k11a := k11.1; have k11b := k11.2.1; have k11c := k11.2.2; have k11l := k11.lt
  try clear k13a k13b k13c k13l
  have k13a := k13.1; have k13b := k13.2.1; have k13c := k13.2.2; have k13l := k13.lt
  try clear k15a k15b k15c k15l
  have k15a := k15.1; have k15b := k15.2.1; have k15c := k15.2.2; have k15l := k15.lt
  go_wp2
  go_ret
  refine ⟨rfl, bel⟩
end Go.Proofs.Ytfebopgljcagnaa
