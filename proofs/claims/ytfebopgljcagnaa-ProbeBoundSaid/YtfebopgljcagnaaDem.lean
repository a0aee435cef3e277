/-
  The contracts of Demand, Take, Drop, First and All, the program's and the document's: each answers by the plain functions below, and turns nothing that was there.
-/
import Derived.Test.YtfebopgljcagnaaBase
import Derived.Deep.DeepMust
import Derived.Deep.RegionWith
import Derived.StillTailTactics
namespace Go.Proofs.Ytfebopgljcagnaa
open Go.RowKit
set_option linter.unusedVariables false
set_option linter.unusedSimpArgs false

def demE (a b c s m : Int) : Int := if ok3 a b c then (if 0 ≤ s ∧ s < 3 then (if 1 ≤ m ∧ m ≤ 2 then 0 else 2) else 160) else 2
def demA (a b c s m : Int) : Int := if demE a b c s m = 0 then setA a s (max (getS a b c s) m) else 0
def demB (a b c s m : Int) : Int := if demE a b c s m = 0 then setB b s (max (getS a b c s) m) else 0
def demC (a b c s m : Int) : Int := if demE a b c s m = 0 then setC c s (max (getS a b c s) m) else 0
def takE (a b c s : Int) : Int := if ok3 a b c then (if 0 ≤ s ∧ s < 3 then (if getS a b c s = 0 then 5 else 0) else 160) else 2
def takA (a b c s : Int) : Int := if takE a b c s = 0 then setA a s (getS a b c s - 1) else 0
def takB (a b c s : Int) : Int := if takE a b c s = 0 then setB b s (getS a b c s - 1) else 0
def takC (a b c s : Int) : Int := if takE a b c s = 0 then setC c s (getS a b c s - 1) else 0
def drpE (a b c s : Int) : Int := if ok3 a b c then (if 0 ≤ s ∧ s < 3 then 0 else 160) else 2
def drpA (a b c s : Int) : Int := if drpE a b c s = 0 then setA a s 0 else 0
def drpB (a b c s : Int) : Int := if drpE a b c s = 0 then setB b s 0 else 0
def drpC (a b c s : Int) : Int := if drpE a b c s = 0 then setC c s 0 else 0
def firV (a b c : Int) : Int := if ok3 a b c then (if 0 < a then 0 else if 0 < b then 1 else if 0 < c then 2 else -1) else -1
def allV (a b c : Int) : Int := if ok3 a b c then a + b + c else 0
def chkV (a b c : Int) : Int := if ok3 a b c then 0 else 2

theorem below_after {w W w1 : World} (h : Below w.heap.size w W) (hb : Below W.heap.size W w1) : Below w.heap.size w w1 := h.trans (hb.mono h.size)

def Out (A B C E : Int) (W : World) (e : Ending) (w' : World) : Prop :=
  e = .returned (.tuple #[.agg #[.int .i64 A, .int .i64 B, .int .i64 C], .int .i64 E]) ∧ Below W.heap.size W w'

theorem out_of {A B C E A' B' C' : Int} {w w' : World} (h : Below w.heap.size w w') (hA : A' = A) (hB : B' = B) (hC : C' = C) :
    Out A B C E w (.returned (.tuple #[.agg #[.int .i64 A', .int .i64 B', .int .i64 C'], .int .i64 E])) w' := by
  subst hA hB hC; exact ⟨rfl, h⟩
theorem Out.eqs {A B C E A' B' C' E' : Int} {w w' : World} {e : Ending} (h : Out A' B' C' E' w e w') (hA : A' = A) (hB : B' = B) (hC : C' = C) (hE : E' = E) : Out A B C E w e w' := by
  subst hA hB hC hE; exact h

set_option maxHeartbeats 400000 in
theorem demand_bad (a b c s : Int) (m : Int) (w : World) (h : ¬ ok3 a b c) :
    Calls Try.prog 9 #[.agg #[.int .i64 a, .int .i64 b, .int .i64 c], .int .i64 s, .int .i64 m] w (Out 0 0 0 2 w) := by
  go_enter Try.func9, Try.ntmps9
  go_wp2_with (go_at_call 25; refine (may_bad _ _ _ _ _ h).mono ?_; rintro e w1 ⟨rfl, hb⟩; obtain ⟨hc, hf⟩ := bcell hb; have hz : w.heap.size + 1 < w1.heap.size := (by have := hb.size; simp at this; omega); have hz0 : w.heap.size < w1.heap.size := (by omega))
  all_goals
    refine bodyPost_ret (v := .tuple #[.agg #[.int .i64 0, .int .i64 0, .int .i64 0], .int .i64 2]) (by simp [results, Try.results9, go_sem, hc, hz]) rfl ⟨rfl, ?_⟩
    go_grown
    exact below_after (by go_grown) hb

set_option maxHeartbeats 400000 in
theorem demand_space (a b c s : Int) (m : Int) (w : World) (h : ok3 a b c) (hs : s < 0 ∨ 3 ≤ s) :
    Calls Try.prog 9 #[.agg #[.int .i64 a, .int .i64 b, .int .i64 c], .int .i64 s, .int .i64 m] w (Out 0 0 0 160 w) := by


  go_enter Try.func9, Try.ntmps9
  go_wp2_with (go_at_call 25; refine (may_space _ _ _ _ _ h hs).mono ?_; rintro e w1 ⟨rfl, hb⟩; obtain ⟨hc, hf⟩ := bcell hb; have hz : w.heap.size + 1 < w1.heap.size := (by have := hb.size; simp at this; omega); have hz0 : w.heap.size < w1.heap.size := (by omega))
  all_goals
    refine bodyPost_ret (v := .tuple #[.agg #[.int .i64 0, .int .i64 0, .int .i64 0], .int .i64 160]) (by simp [results, Try.results9, go_sem, hc, hz]) rfl ⟨rfl, ?_⟩
    go_grown
    exact below_after (by go_grown) hb

set_option maxHeartbeats 400000 in
theorem demand_many (a b c s : Int) (m : Int) (w : World) (h : ok3 a b c) (h0 : 0 ≤ s) (h1 : s < 3) (hm : m < 1 ∨ 2 < m) :
    Calls Try.prog 9 #[.agg #[.int .i64 a, .int .i64 b, .int .i64 c], .int .i64 s, .int .i64 m] w (Out 0 0 0 2 w) := by
  have k1 : (m == 1) = false := beq_eq_false_iff_ne.2 (by omega)
  have k2 : (m == 2) = false := beq_eq_false_iff_ne.2 (by omega)
  have k3 : (m != 1) = true := by rw [bne_iff_ne]; omega
  have k4 : (m != 2) = true := by rw [bne_iff_ne]; omega
  go_enter Try.func9, Try.ntmps9
  rcases hm with hm | hm
  all_goals
    go_wp2_with (go_at_call 25; refine (may_ok _ _ _ _ _ h h0 h1).mono ?_; rintro e w1 ⟨rfl, hb⟩; obtain ⟨hc, hf⟩ := bcell hb; have hz : w.heap.size + 1 < w1.heap.size := (by have := hb.size; simp at this; omega); have hz0 : w.heap.size < w1.heap.size := (by omega))
    all_goals
      refine bodyPost_ret (v := .tuple #[.agg #[.int .i64 0, .int .i64 0, .int .i64 0], .int .i64 2]) (by simp [results, Try.results9, go_sem, hc, hz]) rfl ⟨rfl, ?_⟩
      go_grown
      exact below_after (by go_grown) hb

set_option maxHeartbeats 800000 in
theorem demand_ok (a b c s : Int) (m : Int) (w : World) (h : ok3 a b c) (h0 : 0 ≤ s) (h1 : s < 3) (m0 : 1 ≤ m) (m1 : m ≤ 2) :
    Calls Try.prog 9 #[.agg #[.int .i64 a, .int .i64 b, .int .i64 c], .int .i64 s, .int .i64 m] w (Out (setA a s (max (getS a b c s) m)) (setB b s (max (getS a b c s) m)) (setC c s (max (getS a b c s) m)) 0 w) := by
  have hlt : getS a b c s < m ∨ ¬ getS a b c s < m := by omega
  obtain rfl | rfl | rfl : s = 0 ∨ s = 1 ∨ s = 2 := by omega
  all_goals
    simp only [getS, Int.reduceEq, ↓reduceIte] at hlt
    rcases hlt with hlt | hlt
    all_goals
      skip
      all_goals
       go_enter Try.func9, Try.ntmps9
       go_wp2_with (go_at_call 25; refine (may_ok _ _ _ _ _ h h0 h1).mono ?_; rintro e w1 ⟨rfl, hb⟩; obtain ⟨hc, hf⟩ := bcell hb; have hz : w.heap.size + 1 < w1.heap.size := (by have := hb.size; simp at this; omega); have hz0 : w.heap.size < w1.heap.size := (by omega))
       go_still_tail 7, (by kernel_rfl)
       change wpList _ _ _ _ _ w1.drew
       go_wp2_with (go_at_call 26; refine (with_any _ _ _ _ _ _ h0 h1).mono ?_; rintro e w2 ⟨rfl, hb2⟩; obtain ⟨hc2, hf2⟩ := bcellD hb2)
       all_goals
         refine bodyPost_ret (v := ?_) ?_ rfl ?_
         rotate_left
         · simp [results, Try.results9, go_sem, hc, hz, hc2]; rfl
         refine out_of (by go_grown; exact below_after (by go_grown; exact below_after (by go_grown) hb) hb2) ?_ ?_ ?_ <;> simp [setA, setB, setC, getS] <;> omega

set_option maxHeartbeats 400000 in
theorem take_bad (a b c s : Int) (w : World) (h : ¬ ok3 a b c) :
    Calls Try.prog 12 #[.agg #[.int .i64 a, .int .i64 b, .int .i64 c], .int .i64 s] w (Out 0 0 0 2 w) := by
  go_enter Try.func12, Try.ntmps12
  go_wp2_with (go_at_call 25; refine (may_bad _ _ _ _ _ h).mono ?_; rintro e w1 ⟨rfl, hb⟩; obtain ⟨hc, hf⟩ := bcell hb; have hz : w.heap.size + 1 < w1.heap.size := (by have := hb.size; simp at this; omega); have hz0 : w.heap.size < w1.heap.size := (by omega))
  all_goals
    refine bodyPost_ret (v := .tuple #[.agg #[.int .i64 0, .int .i64 0, .int .i64 0], .int .i64 2]) (by simp [results, Try.results12, go_sem, hc, hz]) rfl ⟨rfl, ?_⟩
    go_grown
    exact below_after (by go_grown) hb

set_option maxHeartbeats 400000 in
theorem take_space (a b c s : Int) (w : World) (h : ok3 a b c) (hs : s < 0 ∨ 3 ≤ s) :
    Calls Try.prog 12 #[.agg #[.int .i64 a, .int .i64 b, .int .i64 c], .int .i64 s] w (Out 0 0 0 160 w) := by


  go_enter Try.func12, Try.ntmps12
  go_wp2_with (go_at_call 25; refine (may_space _ _ _ _ _ h hs).mono ?_; rintro e w1 ⟨rfl, hb⟩; obtain ⟨hc, hf⟩ := bcell hb; have hz : w.heap.size + 1 < w1.heap.size := (by have := hb.size; simp at this; omega); have hz0 : w.heap.size < w1.heap.size := (by omega))
  all_goals
    refine bodyPost_ret (v := .tuple #[.agg #[.int .i64 0, .int .i64 0, .int .i64 0], .int .i64 160]) (by simp [results, Try.results12, go_sem, hc, hz]) rfl ⟨rfl, ?_⟩
    go_grown
    exact below_after (by go_grown) hb

set_option maxHeartbeats 400000 in
theorem take_none (a b c s : Int) (w : World) (h : ok3 a b c) (h0 : 0 ≤ s) (h1 : s < 3) (hg : getS a b c s = 0) :
    Calls Try.prog 12 #[.agg #[.int .i64 a, .int .i64 b, .int .i64 c], .int .i64 s] w (Out 0 0 0 5 w) := by
  obtain rfl | rfl | rfl : s = 0 ∨ s = 1 ∨ s = 2 := by omega
  all_goals
    simp only [getS, Int.reduceEq, ↓reduceIte] at hg
    subst hg
    go_enter Try.func12, Try.ntmps12
    go_wp2_with (go_at_call 25; refine (may_ok _ _ _ _ _ h h0 h1).mono ?_; rintro e w1 ⟨rfl, hb⟩; obtain ⟨hc, hf⟩ := bcell hb; have hz : w.heap.size + 1 < w1.heap.size := (by have := hb.size; simp at this; omega); have hz0 : w.heap.size < w1.heap.size := (by omega))
    all_goals
      refine bodyPost_ret (v := .tuple #[.agg #[.int .i64 0, .int .i64 0, .int .i64 0], .int .i64 5]) (by simp [results, Try.results12, go_sem, hc, hz]) rfl ⟨rfl, ?_⟩
      go_grown
      exact below_after (by go_grown) hb

set_option maxHeartbeats 800000 in
theorem take_ok (a b c s : Int) (w : World) (h : ok3 a b c) (h0 : 0 ≤ s) (h1 : s < 3) (hg : getS a b c s ≠ 0) :
    Calls Try.prog 12 #[.agg #[.int .i64 a, .int .i64 b, .int .i64 c], .int .i64 s] w (Out (setA a s (getS a b c s - 1)) (setB b s (getS a b c s - 1)) (setC c s (getS a b c s - 1)) 0 w) := by
  have hx := h
  obtain ⟨a0, a1, b0, b1, c0, c1⟩ := hx
  obtain rfl | rfl | rfl : s = 0 ∨ s = 1 ∨ s = 2 := by omega
  all_goals
    simp only [getS, Int.reduceEq, ↓reduceIte] at hg
    all_goals
      have hg' := beq_eq_false_iff_ne.2 hg
      go_enter Try.func12, Try.ntmps12
      go_wp2_with (go_at_call 25; refine (may_ok _ _ _ _ _ h h0 h1).mono ?_; rintro e w1 ⟨rfl, hb⟩; obtain ⟨hc, hf⟩ := bcell hb; have hz : w.heap.size + 1 < w1.heap.size := (by have := hb.size; simp at this; omega); have hz0 : w.heap.size < w1.heap.size := (by omega))
      go_still_tail 6, (by kernel_rfl)
      change wpList _ _ _ _ _ w1.drew
      go_wp2_with (go_at_call 26; refine (with_any _ _ _ _ _ _ h0 h1).mono ?_; rintro e w2 ⟨rfl, hb2⟩; obtain ⟨hc2, hf2⟩ := bcellD hb2)
      all_goals
        refine bodyPost_ret (v := ?_) ?_ rfl ?_
        rotate_left
        · simp [results, Try.results12, go_sem, hc, hz, hc2]; rfl
        refine out_of (by go_grown; exact below_after (by go_grown; exact below_after (by go_grown) hb) hb2) ?_ ?_ ?_ <;> simp [setA, setB, setC, getS] <;> omega

set_option maxHeartbeats 400000 in
theorem drop_bad (a b c s : Int) (w : World) (h : ¬ ok3 a b c) :
    Calls Try.prog 14 #[.agg #[.int .i64 a, .int .i64 b, .int .i64 c], .int .i64 s] w (Out 0 0 0 2 w) := by
  go_enter Try.func14, Try.ntmps14
  go_wp2_with (go_at_call 25; refine (may_bad _ _ _ _ _ h).mono ?_; rintro e w1 ⟨rfl, hb⟩; obtain ⟨hc, hf⟩ := bcell hb; have hz : w.heap.size + 1 < w1.heap.size := (by have := hb.size; simp at this; omega); have hz0 : w.heap.size < w1.heap.size := (by omega))
  all_goals
    refine bodyPost_ret (v := .tuple #[.agg #[.int .i64 0, .int .i64 0, .int .i64 0], .int .i64 2]) (by simp [results, Try.results14, go_sem, hc, hz]) rfl ⟨rfl, ?_⟩
    go_grown
    exact below_after (by go_grown) hb

set_option maxHeartbeats 400000 in
theorem drop_space (a b c s : Int) (w : World) (h : ok3 a b c) (hs : s < 0 ∨ 3 ≤ s) :
    Calls Try.prog 14 #[.agg #[.int .i64 a, .int .i64 b, .int .i64 c], .int .i64 s] w (Out 0 0 0 160 w) := by


  go_enter Try.func14, Try.ntmps14
  go_wp2_with (go_at_call 25; refine (may_space _ _ _ _ _ h hs).mono ?_; rintro e w1 ⟨rfl, hb⟩; obtain ⟨hc, hf⟩ := bcell hb; have hz : w.heap.size + 1 < w1.heap.size := (by have := hb.size; simp at this; omega); have hz0 : w.heap.size < w1.heap.size := (by omega))
  all_goals
    refine bodyPost_ret (v := .tuple #[.agg #[.int .i64 0, .int .i64 0, .int .i64 0], .int .i64 160]) (by simp [results, Try.results14, go_sem, hc, hz]) rfl ⟨rfl, ?_⟩
    go_grown
    exact below_after (by go_grown) hb

set_option maxHeartbeats 800000 in
theorem drop_ok (a b c s : Int) (w : World) (h : ok3 a b c) (h0 : 0 ≤ s) (h1 : s < 3) :
    Calls Try.prog 14 #[.agg #[.int .i64 a, .int .i64 b, .int .i64 c], .int .i64 s] w (Out (setA a s 0) (setB b s 0) (setC c s 0) 0 w) := by
  obtain rfl | rfl | rfl : s = 0 ∨ s = 1 ∨ s = 2 := by omega
  all_goals
    all_goals
      go_enter Try.func14, Try.ntmps14
      go_wp2_with (first | (go_at_call 25; refine (may_ok _ _ _ _ _ h h0 h1).mono ?_; rintro e w1 ⟨rfl, hb⟩; obtain ⟨hc, hf⟩ := bcell hb; have hz : w.heap.size + 1 < w1.heap.size := (by have := hb.size; simp at this; omega); have hz0 : w.heap.size < w1.heap.size := (by omega)) | (go_at_call 26; refine (with_any _ _ _ _ _ _ h0 h1).mono ?_; rintro e w2 ⟨rfl, hb2⟩; obtain ⟨hc2, hf2⟩ := bcell hb2))
      all_goals
        refine bodyPost_ret (v := ?_) ?_ rfl ?_
        rotate_left
        · simp [results, Try.results14, go_sem, hc, hz, hc2]; rfl
        refine out_of (by go_grown; exact below_after (by go_grown; exact below_after (by go_grown) hb) hb2) ?_ ?_ ?_ <;> simp [setA, setB, setC, getS]

theorem demand_any (a b c s m : Int) (w : World) : Calls Try.prog 9 #[.agg #[.int .i64 a, .int .i64 b, .int .i64 c], .int .i64 s, .int .i64 m] w (Out (demA a b c s m) (demB a b c s m) (demC a b c s m) (demE a b c s m) w) := by
  unfold demA demB demC demE
  by_cases h : ok3 a b c
  · by_cases hs : 0 ≤ s ∧ s < 3
    · by_cases hm : 1 ≤ m ∧ m ≤ 2
      · simp only [if_pos h, if_pos hs, if_pos hm]; exact demand_ok a b c s m w h hs.1 hs.2 hm.1 hm.2
      · simp only [if_pos h, if_pos hs, if_neg hm]; exact demand_many a b c s m w h hs.1 hs.2 (by omega)
    · simp only [if_pos h, if_neg hs]; exact demand_space a b c s m w h (by omega)
  · simp only [if_neg h]; exact demand_bad a b c s m w h

theorem take_any (a b c s : Int) (w : World) : Calls Try.prog 12 #[.agg #[.int .i64 a, .int .i64 b, .int .i64 c], .int .i64 s] w (Out (takA a b c s) (takB a b c s) (takC a b c s) (takE a b c s) w) := by
  unfold takA takB takC takE
  by_cases h : ok3 a b c
  · by_cases hs : 0 ≤ s ∧ s < 3
    · by_cases hm : getS a b c s = 0
      · simp only [if_pos h, if_pos hs, if_pos hm]; exact take_none a b c s w h hs.1 hs.2 hm
      · simp only [if_pos h, if_pos hs, if_neg hm]; exact take_ok a b c s w h hs.1 hs.2 hm
    · simp only [if_pos h, if_neg hs]; exact take_space a b c s w h (by omega)
  · simp only [if_neg h]; exact take_bad a b c s w h

theorem drop_any (a b c s : Int) (w : World) : Calls Try.prog 14 #[.agg #[.int .i64 a, .int .i64 b, .int .i64 c], .int .i64 s] w (Out (drpA a b c s) (drpB a b c s) (drpC a b c s) (drpE a b c s) w) := by
  unfold drpA drpB drpC drpE
  by_cases h : ok3 a b c
  · by_cases hs : 0 ≤ s ∧ s < 3
    · simp only [if_pos h, if_pos hs]; exact drop_ok a b c s w h hs.1 hs.2
    · simp only [if_pos h, if_neg hs]; exact drop_space a b c s w h (by omega)
  · simp only [if_neg h]; exact drop_bad a b c s w h

theorem check_any (a b c : Int) (w : World) : Calls Try.prog 16 #[.agg #[.int .i64 a, .int .i64 b, .int .i64 c]] w fun e w' => e = .returned (.int .i64 (chkV a b c)) ∧ Below w.heap.size w w' := by
  unfold chkV
  by_cases h : ok3 a b c
  · simp only [if_pos h]; exact check_ok a b c w h
  · simp only [if_neg h]; exact check_bad a b c w h

set_option maxHeartbeats 400000 in
theorem first_any (a b c : Int) (w : World) : Calls Try.prog 18 #[.agg #[.int .i64 a, .int .i64 b, .int .i64 c]] w fun e w' => e = .returned (.int .i64 (firV a b c)) ∧ Below w.heap.size w w' := by
  by_cases h : ok3 a b c
  · have e1 : firV a b c = if 0 < a then 0 else if 0 < b then 1 else if 0 < c then 2 else -1 := by unfold firV; rw [if_pos h]
    rw [e1]; clear e1
    by_cases ha : 0 < a
    · rw [if_pos ha]
      go_enter Try.func18, Try.ntmps18
      go_wp2_with (go_at_call 16; refine (check_ok _ _ _ _ h).mono ?_; rintro e w1 ⟨rfl, hb⟩; obtain ⟨hc, hf⟩ := bcell hb)
      refine wp_loop_rounds 4 ?_
      rw [rounds_succ]
      go_wp2
      go_ret
      exact ⟨rfl, below_after (by go_grown) hb⟩
    · rw [if_neg ha]
      by_cases hbb : 0 < b
      · rw [if_pos hbb]
        go_enter Try.func18, Try.ntmps18
        go_wp2_with (go_at_call 16; refine (check_ok _ _ _ _ h).mono ?_; rintro e w1 ⟨rfl, hb⟩; obtain ⟨hc, hf⟩ := bcell hb)
        refine wp_loop_rounds 4 ?_
        repeat (rw [rounds_succ]; go_wp2)
        go_ret
        exact ⟨rfl, below_after (by go_grown) hb⟩
      · rw [if_neg hbb]
        by_cases hcc : 0 < c
        · rw [if_pos hcc]
          go_enter Try.func18, Try.ntmps18
          go_wp2_with (go_at_call 16; refine (check_ok _ _ _ _ h).mono ?_; rintro e w1 ⟨rfl, hb⟩; obtain ⟨hc, hf⟩ := bcell hb)
          refine wp_loop_rounds 4 ?_
          repeat (rw [rounds_succ]; go_wp2)
          go_ret
          exact ⟨rfl, below_after (by go_grown) hb⟩
        · rw [if_neg hcc]
          go_enter Try.func18, Try.ntmps18
          go_wp2_with (go_at_call 16; refine (check_ok _ _ _ _ h).mono ?_; rintro e w1 ⟨rfl, hb⟩; obtain ⟨hc, hf⟩ := bcell hb)
          refine wp_loop_rounds 4 ?_
          repeat (rw [rounds_succ]; go_wp2)
          go_ret
          exact ⟨rfl, below_after (by go_grown) hb⟩
  · have e1 : firV a b c = -1 := by unfold firV; rw [if_neg h]
    rw [e1]; clear e1
    go_enter Try.func18, Try.ntmps18
    go_wp2_with (go_at_call 16; refine (check_bad _ _ _ _ h).mono ?_; rintro e w1 ⟨rfl, hb⟩; obtain ⟨hc, hf⟩ := bcell hb)
    go_ret
    exact ⟨rfl, below_after (by go_grown) hb⟩

set_option maxHeartbeats 400000 in
theorem all_any (a b c : Int) (w : World) : Calls Try.prog 20 #[.agg #[.int .i64 a, .int .i64 b, .int .i64 c]] w fun e w' => e = .returned (.int .i64 (allV a b c)) ∧ Below w.heap.size w w' := by
  by_cases h : ok3 a b c
  · have e1 : allV a b c = a + b + c := by unfold allV; rw [if_pos h]
    rw [e1]; clear e1
    have hx := h
    obtain ⟨a0, a1, b0, b1, c0, c1⟩ := hx
    go_enter Try.func20, Try.ntmps20
    go_wp2_with (go_at_call 16; refine (check_ok _ _ _ _ h).mono ?_; rintro e w1 ⟨rfl, hb⟩; obtain ⟨hc, hf⟩ := bcell hb)
    go_rounds 4
    go_ret
    exact ⟨by simp, below_after (by go_grown) hb⟩
  · have e1 : allV a b c = 0 := by unfold allV; rw [if_neg h]
    rw [e1]; clear e1
    go_enter Try.func20, Try.ntmps20
    go_wp2_with (go_at_call 16; refine (check_bad _ _ _ _ h).mono ?_; rintro e w1 ⟨rfl, hb⟩; obtain ⟨hc, hf⟩ := bcell hb)
    go_ret
    exact ⟨rfl, below_after (by go_grown) hb⟩

set_option maxHeartbeats 400000 in
theorem rdemand_bad (a b c s : Int) (m : Int) (w : World) (h : ¬ ok3 a b c) :
    Calls Try.prog 10 #[.agg #[.int .i64 a, .int .i64 b, .int .i64 c], .int .i64 s, .int .i64 m] w (Out 0 0 0 2 w) := by
  go_enter Try.func10, Try.ntmps10
  go_wp2_with (go_at_call 27; refine (rmay_bad _ _ _ _ _ h).mono ?_; rintro e w1 ⟨rfl, hb⟩; obtain ⟨hc, hf⟩ := bcell hb; have hz : w.heap.size + 1 < w1.heap.size := (by have := hb.size; simp at this; omega); have hz0 : w.heap.size < w1.heap.size := (by omega))
  all_goals
    refine bodyPost_ret (v := .tuple #[.agg #[.int .i64 0, .int .i64 0, .int .i64 0], .int .i64 2]) (by simp [results, Try.results10, go_sem, hc, hz]) rfl ⟨rfl, ?_⟩
    go_grown
    exact below_after (by go_grown) hb

set_option maxHeartbeats 400000 in
theorem rdemand_space (a b c s : Int) (m : Int) (w : World) (h : ok3 a b c) (hs : s < 0 ∨ 3 ≤ s) :
    Calls Try.prog 10 #[.agg #[.int .i64 a, .int .i64 b, .int .i64 c], .int .i64 s, .int .i64 m] w (Out 0 0 0 160 w) := by


  go_enter Try.func10, Try.ntmps10
  go_wp2_with (go_at_call 27; refine (rmay_space _ _ _ _ _ h hs).mono ?_; rintro e w1 ⟨rfl, hb⟩; obtain ⟨hc, hf⟩ := bcell hb; have hz : w.heap.size + 1 < w1.heap.size := (by have := hb.size; simp at this; omega); have hz0 : w.heap.size < w1.heap.size := (by omega))
  all_goals
    refine bodyPost_ret (v := .tuple #[.agg #[.int .i64 0, .int .i64 0, .int .i64 0], .int .i64 160]) (by simp [results, Try.results10, go_sem, hc, hz]) rfl ⟨rfl, ?_⟩
    go_grown
    exact below_after (by go_grown) hb

set_option maxHeartbeats 400000 in
theorem rdemand_many (a b c s : Int) (m : Int) (w : World) (h : ok3 a b c) (h0 : 0 ≤ s) (h1 : s < 3) (hm : m < 1 ∨ 2 < m) :
    Calls Try.prog 10 #[.agg #[.int .i64 a, .int .i64 b, .int .i64 c], .int .i64 s, .int .i64 m] w (Out 0 0 0 2 w) := by
  have k1 : (m == 1) = false := beq_eq_false_iff_ne.2 (by omega)
  have k2 : (m == 2) = false := beq_eq_false_iff_ne.2 (by omega)
  have k3 : (m != 1) = true := by rw [bne_iff_ne]; omega
  have k4 : (m != 2) = true := by rw [bne_iff_ne]; omega
  go_enter Try.func10, Try.ntmps10
  rcases hm with hm | hm
  all_goals
    go_wp2_with (go_at_call 27; refine (rmay_ok _ _ _ _ _ h h0 h1).mono ?_; rintro e w1 ⟨rfl, hb⟩; obtain ⟨hc, hf⟩ := bcell hb; have hz : w.heap.size + 1 < w1.heap.size := (by have := hb.size; simp at this; omega); have hz0 : w.heap.size < w1.heap.size := (by omega))
    all_goals
      refine bodyPost_ret (v := .tuple #[.agg #[.int .i64 0, .int .i64 0, .int .i64 0], .int .i64 2]) (by simp [results, Try.results10, go_sem, hc, hz]) rfl ⟨rfl, ?_⟩
      go_grown
      exact below_after (by go_grown) hb

set_option maxHeartbeats 800000 in
theorem rdemand_ok (a b c s : Int) (m : Int) (w : World) (h : ok3 a b c) (h0 : 0 ≤ s) (h1 : s < 3) (m0 : 1 ≤ m) (m1 : m ≤ 2) :
    Calls Try.prog 10 #[.agg #[.int .i64 a, .int .i64 b, .int .i64 c], .int .i64 s, .int .i64 m] w (Out (setA a s (max (getS a b c s) m)) (setB b s (max (getS a b c s) m)) (setC c s (max (getS a b c s) m)) 0 w) := by
  have hlt : getS a b c s < m ∨ ¬ getS a b c s < m := by omega
  obtain rfl | rfl | rfl : s = 0 ∨ s = 1 ∨ s = 2 := by omega
  all_goals
    simp only [getS, Int.reduceEq, ↓reduceIte] at hlt
    rcases hlt with hlt | hlt
    all_goals
      obtain rfl | rfl : m = 1 ∨ m = 2 := by omega
      all_goals
       go_enter Try.func10, Try.ntmps10
       go_wp2_with (go_at_call 27; refine (rmay_ok _ _ _ _ _ h h0 h1).mono ?_; rintro e w1 ⟨rfl, hb⟩; obtain ⟨hc, hf⟩ := bcell hb; have hz : w.heap.size + 1 < w1.heap.size := (by have := hb.size; simp at this; omega); have hz0 : w.heap.size < w1.heap.size := (by omega))
       go_still_tail 7, (by kernel_rfl)
       change wpList _ _ _ _ _ w1.drew
       go_wp2_with (go_at_call 28; refine (set_any _ _ _ _ _ _ h0 h1).mono ?_; rintro e w2 ⟨rfl, hb2⟩; obtain ⟨hc2, hf2⟩ := bcellD hb2)
       all_goals
         refine bodyPost_ret (v := ?_) ?_ rfl ?_
         rotate_left
         · simp [results, Try.results10, go_sem, hc, hz, hc2]; rfl
         refine out_of (by go_grown; exact below_after (by go_grown; exact below_after (by go_grown) hb) hb2) ?_ ?_ ?_ <;> simp [setA, setB, setC, getS] <;> omega

set_option maxHeartbeats 400000 in
theorem rtake_bad (a b c s : Int) (w : World) (h : ¬ ok3 a b c) :
    Calls Try.prog 13 #[.agg #[.int .i64 a, .int .i64 b, .int .i64 c], .int .i64 s] w (Out 0 0 0 2 w) := by
  go_enter Try.func13, Try.ntmps13
  go_wp2_with (go_at_call 27; refine (rmay_bad _ _ _ _ _ h).mono ?_; rintro e w1 ⟨rfl, hb⟩; obtain ⟨hc, hf⟩ := bcell hb; have hz : w.heap.size + 1 < w1.heap.size := (by have := hb.size; simp at this; omega); have hz0 : w.heap.size < w1.heap.size := (by omega))
  all_goals
    refine bodyPost_ret (v := .tuple #[.agg #[.int .i64 0, .int .i64 0, .int .i64 0], .int .i64 2]) (by simp [results, Try.results13, go_sem, hc, hz]) rfl ⟨rfl, ?_⟩
    go_grown
    exact below_after (by go_grown) hb

set_option maxHeartbeats 400000 in
theorem rtake_space (a b c s : Int) (w : World) (h : ok3 a b c) (hs : s < 0 ∨ 3 ≤ s) :
    Calls Try.prog 13 #[.agg #[.int .i64 a, .int .i64 b, .int .i64 c], .int .i64 s] w (Out 0 0 0 160 w) := by


  go_enter Try.func13, Try.ntmps13
  go_wp2_with (go_at_call 27; refine (rmay_space _ _ _ _ _ h hs).mono ?_; rintro e w1 ⟨rfl, hb⟩; obtain ⟨hc, hf⟩ := bcell hb; have hz : w.heap.size + 1 < w1.heap.size := (by have := hb.size; simp at this; omega); have hz0 : w.heap.size < w1.heap.size := (by omega))
  all_goals
    refine bodyPost_ret (v := .tuple #[.agg #[.int .i64 0, .int .i64 0, .int .i64 0], .int .i64 160]) (by simp [results, Try.results13, go_sem, hc, hz]) rfl ⟨rfl, ?_⟩
    go_grown
    exact below_after (by go_grown) hb

set_option maxHeartbeats 400000 in
theorem rtake_none (a b c s : Int) (w : World) (h : ok3 a b c) (h0 : 0 ≤ s) (h1 : s < 3) (hg : getS a b c s = 0) :
    Calls Try.prog 13 #[.agg #[.int .i64 a, .int .i64 b, .int .i64 c], .int .i64 s] w (Out 0 0 0 5 w) := by
  obtain rfl | rfl | rfl : s = 0 ∨ s = 1 ∨ s = 2 := by omega
  all_goals
    simp only [getS, Int.reduceEq, ↓reduceIte] at hg
    subst hg
    go_enter Try.func13, Try.ntmps13
    go_wp2_with (go_at_call 27; refine (rmay_ok _ _ _ _ _ h h0 h1).mono ?_; rintro e w1 ⟨rfl, hb⟩; obtain ⟨hc, hf⟩ := bcell hb; have hz : w.heap.size + 1 < w1.heap.size := (by have := hb.size; simp at this; omega); have hz0 : w.heap.size < w1.heap.size := (by omega))
    all_goals
      refine bodyPost_ret (v := .tuple #[.agg #[.int .i64 0, .int .i64 0, .int .i64 0], .int .i64 5]) (by simp [results, Try.results13, go_sem, hc, hz]) rfl ⟨rfl, ?_⟩
      go_grown
      exact below_after (by go_grown) hb

set_option maxHeartbeats 800000 in
theorem rtake_ok (a b c s : Int) (w : World) (h : ok3 a b c) (h0 : 0 ≤ s) (h1 : s < 3) (hg : getS a b c s ≠ 0) :
    Calls Try.prog 13 #[.agg #[.int .i64 a, .int .i64 b, .int .i64 c], .int .i64 s] w (Out (setA a s (getS a b c s - 1)) (setB b s (getS a b c s - 1)) (setC c s (getS a b c s - 1)) 0 w) := by
  have hx := h
  obtain ⟨a0, a1, b0, b1, c0, c1⟩ := hx
  obtain rfl | rfl | rfl : s = 0 ∨ s = 1 ∨ s = 2 := by omega
  all_goals
    simp only [getS, Int.reduceEq, ↓reduceIte] at hg
    all_goals
      have hg' := beq_eq_false_iff_ne.2 hg
      go_enter Try.func13, Try.ntmps13
      go_wp2_with (go_at_call 27; refine (rmay_ok _ _ _ _ _ h h0 h1).mono ?_; rintro e w1 ⟨rfl, hb⟩; obtain ⟨hc, hf⟩ := bcell hb; have hz : w.heap.size + 1 < w1.heap.size := (by have := hb.size; simp at this; omega); have hz0 : w.heap.size < w1.heap.size := (by omega))
      go_still_tail 6, (by kernel_rfl)
      change wpList _ _ _ _ _ w1.drew
      go_wp2_with (go_at_call 28; refine (set_any _ _ _ _ _ _ h0 h1).mono ?_; rintro e w2 ⟨rfl, hb2⟩; obtain ⟨hc2, hf2⟩ := bcellD hb2)
      all_goals
        refine bodyPost_ret (v := ?_) ?_ rfl ?_
        rotate_left
        · simp [results, Try.results13, go_sem, hc, hz, hc2]; rfl
        refine out_of (by go_grown; exact below_after (by go_grown; exact below_after (by go_grown) hb) hb2) ?_ ?_ ?_ <;> simp [setA, setB, setC, getS] <;> omega

set_option maxHeartbeats 400000 in
theorem rdrop_bad (a b c s : Int) (w : World) (h : ¬ ok3 a b c) :
    Calls Try.prog 15 #[.agg #[.int .i64 a, .int .i64 b, .int .i64 c], .int .i64 s] w (Out 0 0 0 2 w) := by
  go_enter Try.func15, Try.ntmps15
  go_wp2_with (go_at_call 27; refine (rmay_bad _ _ _ _ _ h).mono ?_; rintro e w1 ⟨rfl, hb⟩; obtain ⟨hc, hf⟩ := bcell hb; have hz : w.heap.size + 1 < w1.heap.size := (by have := hb.size; simp at this; omega); have hz0 : w.heap.size < w1.heap.size := (by omega))
  all_goals
    refine bodyPost_ret (v := .tuple #[.agg #[.int .i64 0, .int .i64 0, .int .i64 0], .int .i64 2]) (by simp [results, Try.results15, go_sem, hc, hz]) rfl ⟨rfl, ?_⟩
    go_grown
    exact below_after (by go_grown) hb

set_option maxHeartbeats 400000 in
theorem rdrop_space (a b c s : Int) (w : World) (h : ok3 a b c) (hs : s < 0 ∨ 3 ≤ s) :
    Calls Try.prog 15 #[.agg #[.int .i64 a, .int .i64 b, .int .i64 c], .int .i64 s] w (Out 0 0 0 160 w) := by


  go_enter Try.func15, Try.ntmps15
  go_wp2_with (go_at_call 27; refine (rmay_space _ _ _ _ _ h hs).mono ?_; rintro e w1 ⟨rfl, hb⟩; obtain ⟨hc, hf⟩ := bcell hb; have hz : w.heap.size + 1 < w1.heap.size := (by have := hb.size; simp at this; omega); have hz0 : w.heap.size < w1.heap.size := (by omega))
  all_goals
    refine bodyPost_ret (v := .tuple #[.agg #[.int .i64 0, .int .i64 0, .int .i64 0], .int .i64 160]) (by simp [results, Try.results15, go_sem, hc, hz]) rfl ⟨rfl, ?_⟩
    go_grown
    exact below_after (by go_grown) hb

set_option maxHeartbeats 800000 in
theorem rdrop_ok (a b c s : Int) (w : World) (h : ok3 a b c) (h0 : 0 ≤ s) (h1 : s < 3) :
    Calls Try.prog 15 #[.agg #[.int .i64 a, .int .i64 b, .int .i64 c], .int .i64 s] w (Out (setA a s 0) (setB b s 0) (setC c s 0) 0 w) := by
  obtain rfl | rfl | rfl : s = 0 ∨ s = 1 ∨ s = 2 := by omega
  all_goals
    all_goals
      go_enter Try.func15, Try.ntmps15
      go_wp2_with (first | (go_at_call 27; refine (rmay_ok _ _ _ _ _ h h0 h1).mono ?_; rintro e w1 ⟨rfl, hb⟩; obtain ⟨hc, hf⟩ := bcell hb; have hz : w.heap.size + 1 < w1.heap.size := (by have := hb.size; simp at this; omega); have hz0 : w.heap.size < w1.heap.size := (by omega)) | (go_at_call 28; refine (set_any _ _ _ _ _ _ h0 h1).mono ?_; rintro e w2 ⟨rfl, hb2⟩; obtain ⟨hc2, hf2⟩ := bcell hb2))
      all_goals
        refine bodyPost_ret (v := ?_) ?_ rfl ?_
        rotate_left
        · simp [results, Try.results15, go_sem, hc, hz, hc2]; rfl
        refine out_of (by go_grown; exact below_after (by go_grown; exact below_after (by go_grown) hb) hb2) ?_ ?_ ?_ <;> simp [setA, setB, setC, getS]

theorem rdemand_any (a b c s m : Int) (w : World) : Calls Try.prog 10 #[.agg #[.int .i64 a, .int .i64 b, .int .i64 c], .int .i64 s, .int .i64 m] w (Out (demA a b c s m) (demB a b c s m) (demC a b c s m) (demE a b c s m) w) := by
  unfold demA demB demC demE
  by_cases h : ok3 a b c
  · by_cases hs : 0 ≤ s ∧ s < 3
    · by_cases hm : 1 ≤ m ∧ m ≤ 2
      · simp only [if_pos h, if_pos hs, if_pos hm]; exact rdemand_ok a b c s m w h hs.1 hs.2 hm.1 hm.2
      · simp only [if_pos h, if_pos hs, if_neg hm]; exact rdemand_many a b c s m w h hs.1 hs.2 (by omega)
    · simp only [if_pos h, if_neg hs]; exact rdemand_space a b c s m w h (by omega)
  · simp only [if_neg h]; exact rdemand_bad a b c s m w h

theorem rtake_any (a b c s : Int) (w : World) : Calls Try.prog 13 #[.agg #[.int .i64 a, .int .i64 b, .int .i64 c], .int .i64 s] w (Out (takA a b c s) (takB a b c s) (takC a b c s) (takE a b c s) w) := by
  unfold takA takB takC takE
  by_cases h : ok3 a b c
  · by_cases hs : 0 ≤ s ∧ s < 3
    · by_cases hm : getS a b c s = 0
      · simp only [if_pos h, if_pos hs, if_pos hm]; exact rtake_none a b c s w h hs.1 hs.2 hm
      · simp only [if_pos h, if_pos hs, if_neg hm]; exact rtake_ok a b c s w h hs.1 hs.2 hm
    · simp only [if_pos h, if_neg hs]; exact rtake_space a b c s w h (by omega)
  · simp only [if_neg h]; exact rtake_bad a b c s w h

theorem rdrop_any (a b c s : Int) (w : World) : Calls Try.prog 15 #[.agg #[.int .i64 a, .int .i64 b, .int .i64 c], .int .i64 s] w (Out (drpA a b c s) (drpB a b c s) (drpC a b c s) (drpE a b c s) w) := by
  unfold drpA drpB drpC drpE
  by_cases h : ok3 a b c
  · by_cases hs : 0 ≤ s ∧ s < 3
    · simp only [if_pos h, if_pos hs]; exact rdrop_ok a b c s w h hs.1 hs.2
    · simp only [if_pos h, if_neg hs]; exact rdrop_space a b c s w h (by omega)
  · simp only [if_neg h]; exact rdrop_bad a b c s w h

theorem rcheck_any (a b c : Int) (w : World) : Calls Try.prog 17 #[.agg #[.int .i64 a, .int .i64 b, .int .i64 c]] w fun e w' => e = .returned (.int .i64 (chkV a b c)) ∧ Below w.heap.size w w' := by
  unfold chkV
  by_cases h : ok3 a b c
  · simp only [if_pos h]; exact rcheck_ok a b c w h
  · simp only [if_neg h]; exact rcheck_bad a b c w h

end Go.Proofs.Ytfebopgljcagnaa
