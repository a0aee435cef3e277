/-
  The walk of ProbeTwice: it answers true whatever is left and whatever the space, and turns nothing that was there.
-/
import Derived.Test.YtfebopgljcagnaaWorks
namespace Go.Proofs.Ytfebopgljcagnaa
open Go.RowKit Go.Sort
set_option linter.unusedVariables false
set_option linter.unusedSimpArgs false

theorem get_set (x y z s v : Int) (h0 : 0 ≤ s) (h1 : s < 3) : getS (setA x s v) (setB y s v) (setC z s v) s = v := by
  unfold getS setA setB setC; repeat' split <;> omega
theorem set_setA (x s v u : Int) : setA (setA x s v) s u = setA x s u := by unfold setA; repeat' split <;> omega
theorem set_setB (x s v u : Int) : setB (setB x s v) s u = setB x s u := by unfold setB; repeat' split <;> omega
theorem set_setC (x s v u : Int) : setC (setC x s v) s u = setC x s u := by unfold setC; repeat' split <;> omega
theorem ok_set {x y z : Int} (s : Int) {v : Int} (h : ok3 x y z) (v0 : 0 ≤ v) (v1 : v ≤ 2) : ok3 (setA x s v) (setB y s v) (setC z s v) := by
  obtain ⟨a0, a1, b0, b1, c0, c1⟩ := h
  unfold ok3 setA setB setC; refine ⟨?_, ?_, ?_, ?_, ?_, ?_⟩ <;> split <;> omega
theorem get_in {x y z s : Int} (h : ok3 x y z) : 0 ≤ getS x y z s ∧ getS x y z s ≤ 2 := by
  obtain ⟨a0, a1, b0, b1, c0, c1⟩ := h
  unfold getS; repeat' split <;> omega
theorem Is3.at {w : World} {b : Nat} {x y z s : Int} (h : Is3 w b x y z) (h0 : 0 ≤ s) (h1 : s < 3) : w.cell? ⟨b, s.toNat, none⟩ = some (.int .i64 (getS x y z s)) := by
  obtain rfl | rfl | rfl : s = 0 ∨ s = 1 ∨ s = 2 := by omega
  · exact h.1
  · exact h.2.1
  · exact h.2.2
theorem dem_in {x y z s : Int} (m M : Int) {w : World} {e : Ending} {w' : World} (h : Out (setA x s (max (getS x y z s) m)) (setB y s (max (getS x y z s) m)) (setC z s (max (getS x y z s) m)) 0 w e w') (hM : max (getS x y z s) m = M) :
    e = .returned (.tuple #[.agg #[.int .i64 (setA x s M), .int .i64 (setB y s M), .int .i64 (setC z s M)], .int .i64 0]) ∧ Below w.heap.size w w' := by
  subst hM; exact h
/-- A demand where what is asked for (or more) is left in the space already: 'one' (o: what is left there). -/
theorem demand_again (x y z s o m : Int) (w : World) (h : ok3 x y z) (h0 : 0 ≤ s) (h1 : s < 3) (o0 : 0 ≤ o) (o1 : o ≤ 2) (m0 : 1 ≤ m) (m1 : m ≤ 2) (M : Int) (hM : max o m = M) :
    Calls Try.prog 9 #[.agg #[.int .i64 (setA x s o), .int .i64 (setB y s o), .int .i64 (setC z s o)], .int .i64 s, .int .i64 m] w fun e w' =>
      e = .returned (.tuple #[.agg #[.int .i64 (setA x s M), .int .i64 (setB y s M), .int .i64 (setC z s M)], .int .i64 0]) ∧ Below w.heap.size w w' := by
  refine (demand_ok _ _ _ s m w (ok_set s h o0 o1) h0 h1 m0 m1).mono fun e w' k => ?_
  rw [get_set x y z s o h0 h1, hM, set_setA, set_setB, set_setC] at k
  exact k
theorem demand_first (x y z s m : Int) (w : World) (h : ok3 x y z) (h0 : 0 ≤ s) (h1 : s < 3) (m0 : 1 ≤ m) (m1 : m ≤ 2) (M : Int) (hM : max (getS x y z s) m = M) :
    Calls Try.prog 9 #[.agg #[.int .i64 x, .int .i64 y, .int .i64 z], .int .i64 s, .int .i64 m] w fun e w' =>
      e = .returned (.tuple #[.agg #[.int .i64 (setA x s M), .int .i64 (setB y s M), .int .i64 (setC z s M)], .int .i64 0]) ∧ Below w.heap.size w w' :=
  (demand_ok x y z s m w h h0 h1 m0 m1).mono fun e w' k => dem_in m M k hM

/-- What is left, as a number. -/
theorem ok_of_num (n : Int) (h0 : 0 ≤ n) (h1 : n < 27) : ok3 (n % 3) (n / 3 % 3) (n / 9) := by unfold ok3; omega

set_option maxHeartbeats 4000000 in
theorem twice_core (n s : Int) (w : World) (n0 : -9223372036854775808 ≤ n) (n1 : n ≤ 9223372036854775807) (s0 : -9223372036854775808 ≤ s) (s1 : s ≤ 9223372036854775807) (o : Int) (ho : max (getS (n % 27 % 3) (n % 27 / 3 % 3) (n % 27 / 9) (s % 3)) 1 = o)
    (hg : (1 < getS (n % 27 % 3) (n % 27 / 3 % 3) (n % 27 / 9) (s % 3) ∧ o = getS (n % 27 % 3) (n % 27 / 3 % 3) (n % 27 / 9) (s % 3)) ∨ (¬ 1 < getS (n % 27 % 3) (n % 27 / 3 % 3) (n % 27 / 9) (s % 3) ∧ o = 1)) :
    Calls Try.prog 6 #[.int .i64 n, .int .i64 s] w fun e w' => e = .returned (.bool true) ∧ Below w.heap.size w w' := by
  have qe := run_eqA 23 Try.underlying23
  go_enter Try.func6, Try.ntmps6
  go_wp2_with fail
  refine (bring_any n 27 _ n0 n1 (by omega) (by omega)).mono ?_; rintro e w' ⟨rfl, rfl⟩
  go_wp2_with fail
  refine (bring_any s 3 _ s0 s1 (by omega) (by omega)).mono ?_; rintro e w' ⟨rfl, rfl⟩
  have N0 : 0 ≤ n % 27 := Int.emod_nonneg _ (by omega)
  have N1 : n % 27 < 27 := Int.emod_lt_of_pos _ (by omega)
  have S0 : 0 ≤ s % 3 := Int.emod_nonneg _ (by omega)
  have S1 : s % 3 < 3 := Int.emod_lt_of_pos _ (by omega)
  generalize n % 27 = N at *
  generalize s % 3 = S at *
  clear n0 n1 s0 s1
  have hok := ok_of_num N N0 N1
  have gin := get_in (s := S) hok
  go_wp2_with fail
  generalize N % 3 = X at *
  generalize N / 3 % 3 = Y at *
  generalize N / 9 = Z at *
  have hlo : 0 ≤ o := by omega
  have hhi : o ≤ 2 := by omega
  have e2 : max (getS X Y Z S) 2 = 2 := by omega
  have eo1 : max o 1 = o := by omega
  have eo2 : max o 2 = 2 := by omega
  have e21 : max (2 : Int) 1 = 2 := by omega
  have H := And.intro ho (And.intro hg (And.intro e2 (And.intro eo1 (And.intro eo2 e21))))
  have H : Hid (_ ∧ _) := H
  clear ho hg e2 eo1 eo2 e21
  have bel : Below w.heap.size w w := Below.refl _ _
  refine (demand_first X Y Z S 1 _ hok S0 S1 (by omega) (by omega) o H.out.1).mono ?_; rintro e w1 ⟨rfl, hb⟩
  have k5 := (Is3.made w X Y Z 23).keep hb
  replace bel := below_after (bel.alloc bel.size (Obj.cells #[.int .i64 X, .int .i64 Y, .int .i64 Z] 23)) hb
  clear hb
  try clear k5a k5b k5c k5l
  have k5a := k5.1; have k5b := k5.2.1; have k5c := k5.2.2; have k5l := k5.lt
  go_wp2_with fail
  refine (demand_first X Y Z S 2 _ hok S0 S1 (by omega) (by omega) 2 H.out.2.2.1).mono ?_; rintro e w2 ⟨rfl, hb⟩
  replace k5 := (k5.alloc (Obj.cells #[.int .i64 (setA X S o), .int .i64 (setB Y S o), .int .i64 (setC Z S o)] 23)).keep hb
  have k6 := (Is3.made w1 (setA X S o) (setB Y S o) (setC Z S o) 23).keep hb
  replace bel := below_after (bel.alloc bel.size (Obj.cells #[.int .i64 (setA X S o), .int .i64 (setB Y S o), .int .i64 (setC Z S o)] 23)) hb
  clear hb
  try clear k5a k5b k5c k5l
  have k5a := k5.1; have k5b := k5.2.1; have k5c := k5.2.2; have k5l := k5.lt
  try clear k6a k6b k6c k6l
  have k6a := k6.1; have k6b := k6.2.1; have k6c := k6.2.2; have k6l := k6.lt
  go_wp2_with fail
  refine (demand_again X Y Z S o 1 _ hok S0 S1 hlo hhi (by omega) (by omega) o H.out.2.2.2.1).mono ?_; rintro e w3 ⟨rfl, hb⟩
  replace k5 := (k5.alloc (Obj.cells #[.int .i64 (setA X S 2), .int .i64 (setB Y S 2), .int .i64 (setC Z S 2)] 23)).keep hb
  replace k6 := (k6.alloc (Obj.cells #[.int .i64 (setA X S 2), .int .i64 (setB Y S 2), .int .i64 (setC Z S 2)] 23)).keep hb
  have k8 := (Is3.made w2 (setA X S 2) (setB Y S 2) (setC Z S 2) 23).keep hb
  replace bel := below_after (bel.alloc bel.size (Obj.cells #[.int .i64 (setA X S 2), .int .i64 (setB Y S 2), .int .i64 (setC Z S 2)] 23)) hb
  clear hb
  try clear k5a k5b k5c k5l
  have k5a := k5.1; have k5b := k5.2.1; have k5c := k5.2.2; have k5l := k5.lt
  try clear k6a k6b k6c k6l
  have k6a := k6.1; have k6b := k6.2.1; have k6c := k6.2.2; have k6l := k6.lt
  try clear k8a k8b k8c k8l
  have k8a := k8.1; have k8b := k8.2.1; have k8c := k8.2.2; have k8l := k8.lt
  go_wp2_with fail
  refine (demand_again X Y Z S o 2 _ hok S0 S1 hlo hhi (by omega) (by omega) 2 H.out.2.2.2.2.1).mono ?_; rintro e w4 ⟨rfl, hb⟩
  replace k5 := (k5.alloc (Obj.cells #[.int .i64 (setA X S o), .int .i64 (setB Y S o), .int .i64 (setC Z S o)] 23)).keep hb
  replace k6 := (k6.alloc (Obj.cells #[.int .i64 (setA X S o), .int .i64 (setB Y S o), .int .i64 (setC Z S o)] 23)).keep hb
  replace k8 := (k8.alloc (Obj.cells #[.int .i64 (setA X S o), .int .i64 (setB Y S o), .int .i64 (setC Z S o)] 23)).keep hb
  have k10 := (Is3.made w3 (setA X S o) (setB Y S o) (setC Z S o) 23).keep hb
  replace bel := below_after (bel.alloc bel.size (Obj.cells #[.int .i64 (setA X S o), .int .i64 (setB Y S o), .int .i64 (setC Z S o)] 23)) hb
  clear hb
  try clear k5a k5b k5c k5l
  have k5a := k5.1; have k5b := k5.2.1; have k5c := k5.2.2; have k5l := k5.lt
  try clear k6a k6b k6c k6l
  have k6a := k6.1; have k6b := k6.2.1; have k6c := k6.2.2; have k6l := k6.lt
  try clear k8a k8b k8c k8l
  have k8a := k8.1; have k8b := k8.2.1; have k8c := k8.2.2; have k8l := k8.lt
  try clear k10a k10b k10c k10l
  have k10a := k10.1; have k10b := k10.2.1; have k10c := k10.2.2; have k10l := k10.lt
  go_wp2_with fail
  refine (demand_again X Y Z S 2 1 _ hok S0 S1 (by omega) (by omega) (by omega) (by omega) 2 H.out.2.2.2.2.2).mono ?_; rintro e w5 ⟨rfl, hb⟩
  replace k5 := (k5.alloc (Obj.cells #[.int .i64 (setA X S 2), .int .i64 (setB Y S 2), .int .i64 (setC Z S 2)] 23)).keep hb
  replace k6 := (k6.alloc (Obj.cells #[.int .i64 (setA X S 2), .int .i64 (setB Y S 2), .int .i64 (setC Z S 2)] 23)).keep hb
  replace k8 := (k8.alloc (Obj.cells #[.int .i64 (setA X S 2), .int .i64 (setB Y S 2), .int .i64 (setC Z S 2)] 23)).keep hb
  replace k10 := (k10.alloc (Obj.cells #[.int .i64 (setA X S 2), .int .i64 (setB Y S 2), .int .i64 (setC Z S 2)] 23)).keep hb
  have k12 := (Is3.made w4 (setA X S 2) (setB Y S 2) (setC Z S 2) 23).keep hb
  replace bel := below_after (bel.alloc bel.size (Obj.cells #[.int .i64 (setA X S 2), .int .i64 (setB Y S 2), .int .i64 (setC Z S 2)] 23)) hb
  clear hb
  try clear k5a k5b k5c k5l
  have k5a := k5.1; have k5b := k5.2.1; have k5c := k5.2.2; have k5l := k5.lt
  try clear k6a k6b k6c k6l
  have k6a := k6.1; have k6b := k6.2.1; have k6c := k6.2.2; have k6l := k6.lt
  try clear k8a k8b k8c k8l
  have k8a := k8.1; have k8b := k8.2.1; have k8c := k8.2.2; have k8l := k8.lt
  try clear k10a k10b k10c k10l
  have k10a := k10.1; have k10b := k10.2.1; have k10c := k10.2.2; have k10l := k10.lt
  try clear k12a k12b k12c k12l
  have k12a := k12.1; have k12b := k12.2.1; have k12c := k12.2.2; have k12l := k12.lt
  go_wp2_with fail
  replace k5 := k5.alloc (Obj.cells #[.int .i64 (setA X S 2), .int .i64 (setB Y S 2), .int .i64 (setC Z S 2)] 23)
  replace k6 := k6.alloc (Obj.cells #[.int .i64 (setA X S 2), .int .i64 (setB Y S 2), .int .i64 (setC Z S 2)] 23)
  replace k8 := k8.alloc (Obj.cells #[.int .i64 (setA X S 2), .int .i64 (setB Y S 2), .int .i64 (setC Z S 2)] 23)
  replace k10 := k10.alloc (Obj.cells #[.int .i64 (setA X S 2), .int .i64 (setB Y S 2), .int .i64 (setC Z S 2)] 23)
  replace k12 := k12.alloc (Obj.cells #[.int .i64 (setA X S 2), .int .i64 (setB Y S 2), .int .i64 (setC Z S 2)] 23)
  have k14 := Is3.made w5 (setA X S 2) (setB Y S 2) (setC Z S 2) 23
  replace bel := bel.alloc bel.size (Obj.cells #[.int .i64 (setA X S 2), .int .i64 (setB Y S 2), .int .i64 (setC Z S 2)] 23)
  try clear k5a k5b k5c k5l
  try clear k6a k6b k6c k6l
  try clear k8a k8b k8c k8l
  try clear k10a k10b k10c k10l
  try clear k12a k12b k12c k12l
  try clear k14a k14b k14c k14l
  obtain ⟨w6, hW⟩ : ∃ W, W = w5.alloc (Obj.cells #[.int .i64 (setA X S 2), .int .i64 (setB Y S 2), .int .i64 (setC Z S 2)] 23) := ⟨_, rfl⟩
  simp only [← hW] at k5 k6 k8 k10 k12 k14 bel ⊢
  clear hW
  try clear k5a k5b k5c k5l
  have k5a := k5.1; have k5b := k5.2.1; have k5c := k5.2.2; have k5l := k5.lt
  try clear k6a k6b k6c k6l
  have k6a := k6.1; have k6b := k6.2.1; have k6c := k6.2.2; have k6l := k6.lt
  try clear k8a k8b k8c k8l
  have k8a := k8.1; have k8b := k8.2.1; have k8c := k8.2.2; have k8l := k8.lt
  try clear k10a k10b k10c k10l
  have k10a := k10.1; have k10b := k10.2.1; have k10c := k10.2.2; have k10l := k10.lt
  try clear k12a k12b k12c k12l
  have k12a := k12.1; have k12b := k12.2.1; have k12c := k12.2.2; have k12l := k12.lt
  try clear k14a k14b k14c k14l
  have k14a := k14.1; have k14b := k14.2.1; have k14c := k14.2.2; have k14l := k14.lt
  have k8i := k8.at S0 S1
  have k6i := k6.at S0 S1
  have k5i := k5.at S0 S1
  rw [get_set X Y Z S 2 S0 S1] at k8i
  rw [get_set X Y Z S o S0 S1] at k6i
  obtain ⟨g, hgg⟩ : ∃ g, g = getS X Y Z S := ⟨_, rfl⟩
  have hg2 := H.out.2.1
  rw [← hgg] at hg2 k5i
  clear H hgg
  rcases hg2 with ⟨hlt, rfl⟩ | ⟨hlt, rfl⟩
  · try clear k5a k5b k5c k5l
    have k5a := cell_regrown k5.1; have k5b := cell_regrown k5.2.1; have k5c := cell_regrown k5.2.2
    try clear k6a k6b k6c k6l
    have k6a := cell_regrown k6.1; have k6b := cell_regrown k6.2.1; have k6c := cell_regrown k6.2.2
    try clear k8a k8b k8c k8l
    have k8a := cell_regrown k8.1; have k8b := cell_regrown k8.2.1; have k8c := cell_regrown k8.2.2
    try clear k10a k10b k10c k10l
    have k10a := cell_regrown k10.1; have k10b := cell_regrown k10.2.1; have k10c := cell_regrown k10.2.2
    try clear k12a k12b k12c k12l
    have k12a := cell_regrown k12.1; have k12b := cell_regrown k12.2.1; have k12c := cell_regrown k12.2.2
    try clear k14a k14b k14c k14l
    have k14a := cell_regrown k14.1; have k14b := cell_regrown k14.2.1; have k14c := cell_regrown k14.2.2
    replace k8i := cell_regrown k8i
    replace k6i := cell_regrown k6i
    replace k5i := cell_regrown k5i
    refine wp_region_quiet_below (by kernel_rfl) (by kernel_rfl) ?_
    repeat (first | go_big_quiet_step ((first | (go_at_call 22; exact Calls.regrown_of (works_any _)))) | quiet_step ((first | (go_at_call 22; exact Calls.regrown_of (works_any _)))))
    refine wpQuiet_nil ?_
    intro w7 hw2
    obtain ⟨⟨dq, osq⟩, hw3⟩ := hw2
    have hbq : Below w6.heap.size w6 w7 := by rw [hw3]; exact below_regrown w6 dq osq
    clear hw3
    replace bel := below_after bel hbq
    clear k5a k5b k5c
    replace k5 := k5.keep hbq
    clear k6a k6b k6c
    replace k6 := k6.keep hbq
    clear k8a k8b k8c
    replace k8 := k8.keep hbq
    clear k10a k10b k10c
    replace k10 := k10.keep hbq
    clear k12a k12b k12c
    replace k12 := k12.keep hbq
    clear k14a k14b k14c
    replace k14 := k14.keep hbq
    clear k8i
    clear k6i
    clear k5i
    clear hbq
    go_wp2
    go_ret
    exact ⟨rfl, bel⟩
  · try clear k5a k5b k5c k5l
    have k5a := cell_regrown k5.1; have k5b := cell_regrown k5.2.1; have k5c := cell_regrown k5.2.2
    try clear k6a k6b k6c k6l
    have k6a := cell_regrown k6.1; have k6b := cell_regrown k6.2.1; have k6c := cell_regrown k6.2.2
    try clear k8a k8b k8c k8l
    have k8a := cell_regrown k8.1; have k8b := cell_regrown k8.2.1; have k8c := cell_regrown k8.2.2
    try clear k10a k10b k10c k10l
    have k10a := cell_regrown k10.1; have k10b := cell_regrown k10.2.1; have k10c := cell_regrown k10.2.2
    try clear k12a k12b k12c k12l
    have k12a := cell_regrown k12.1; have k12b := cell_regrown k12.2.1; have k12c := cell_regrown k12.2.2
    try clear k14a k14b k14c k14l
    have k14a := cell_regrown k14.1; have k14b := cell_regrown k14.2.1; have k14c := cell_regrown k14.2.2
    replace k8i := cell_regrown k8i
    replace k6i := cell_regrown k6i
    replace k5i := cell_regrown k5i
    refine wp_region_quiet_below (by kernel_rfl) (by kernel_rfl) ?_
    repeat (first | go_big_quiet_step ((first | (go_at_call 22; exact Calls.regrown_of (works_any _)))) | quiet_step ((first | (go_at_call 22; exact Calls.regrown_of (works_any _)))))
    refine wpQuiet_nil ?_
    intro w7 hw2
    obtain ⟨⟨dq, osq⟩, hw3⟩ := hw2
    have hbq : Below w6.heap.size w6 w7 := by rw [hw3]; exact below_regrown w6 dq osq
    clear hw3
    replace bel := below_after bel hbq
    clear k5a k5b k5c
    replace k5 := k5.keep hbq
    clear k6a k6b k6c
    replace k6 := k6.keep hbq
    clear k8a k8b k8c
    replace k8 := k8.keep hbq
    clear k10a k10b k10c
    replace k10 := k10.keep hbq
    clear k12a k12b k12c
    replace k12 := k12.keep hbq
    clear k14a k14b k14c
    replace k14 := k14.keep hbq
    clear k8i
    clear k6i
    clear k5i
    clear hbq
    go_wp2
    go_ret
    exact ⟨rfl, bel⟩

theorem twice_any (n s : Int) (w : World) (n0 : -9223372036854775808 ≤ n) (n1 : n ≤ 9223372036854775807) (s0 : -9223372036854775808 ≤ s) (s1 : s ≤ 9223372036854775807) :
    Calls Try.prog 6 #[.int .i64 n, .int .i64 s] w fun e w' => e = .returned (.bool true) ∧ Below w.heap.size w w' :=
  twice_core n s w n0 n1 s0 s1 _ rfl (by omega)
end Go.Proofs.Ytfebopgljcagnaa
