/-
  The contract of 'deed': a row's deed upon what is left.
-/
import Derived.Test.YtfebopgljcagnaaTwice
namespace Go.Proofs.Ytfebopgljcagnaa
open Go.RowKit Go.Sort
set_option linter.unusedVariables false
set_option linter.unusedSimpArgs false

theorem bring_eq (i n v : Int) (w : World) (i0 : -9223372036854775808 ≤ i) (i1 : i ≤ 9223372036854775807) (n0 : 0 < n) (n1 : n ≤ 9223372036854775807) (h : i % n = v) :
    Calls Try.prog 23 #[.int .i64 i, .int .i64 n] w fun e w' => e = .returned (.int .i64 v) ∧ w = w' := h ▸ bring_any i n w i0 i1 n0 n1

/-- A deed's number behind it, of a kind below four, of the number ahead of it. -/
def nv (t g : Int) : Int := if t = 0 then max g 1 else if t = 1 then max g 2 else if t = 2 then g - 1 else 0
/-- It is refused. -/
def bad (t g : Int) : Bool := decide (t = 2) && decide (g = 0)
/-- The blocks that 'deed' lays ahead of its calls. -/
def deedW (w : World) (a b c t s : Int) : World :=
  ((w.alloc (.cells #[.int .i64 a, .int .i64 b, .int .i64 c] 23)).alloc (.cells #[.int .i64 t, .int .i64 s] 42)).alloc (.cells #[.int .i64 0, .int .i64 0, .int .i64 0] 23)

set_option maxHeartbeats 1000000 in
theorem deed_dem (a b c t s k d m : Int) (w : World) (h : ok3 a b c) (t0 : -9223372036854775808 ≤ t) (t1 : t ≤ 9223372036854775807) (s0 : -9223372036854775808 ≤ s) (s1 : s ≤ 9223372036854775807) (hk : s % 3 = k) (hd : t % 4 = d)
    (hm : (d = 0 ∧ m = 1) ∨ (d = 1 ∧ m = 2)) :
    Calls Try.prog 24 #[.agg #[.int .i64 a, .int .i64 b, .int .i64 c], .agg #[.int .i64 t, .int .i64 s]] w
      (Out (setA a k (max (getS a b c k) m)) (setB b k (max (getS a b c k) m)) (setC c k (max (getS a b c k) m)) 0 w) := by
  have k0 : 0 ≤ k := by omega
  have k1 : k < 3 := by omega
  have HK : Hid (s % 3 = k) := hk
  clear hk
  rcases hm with ⟨rfl, rfl⟩ | ⟨rfl, rfl⟩
  all_goals
    have HD : Hid (t % 4 = _) := hd
    clear hd
    go_enter Try.func24, Try.ntmps24
    go_wp2_with fail
    refine (bring_eq s 3 k _ s0 s1 (by omega) (by omega) HK.out).mono ?_; rintro e w' ⟨rfl, rfl⟩
    go_wp2_with fail
    refine (bring_eq t 4 _ _ t0 t1 (by omega) (by omega) HD.out).mono ?_; rintro e w' ⟨rfl, rfl⟩
    go_wp2_with fail
    have wr1 : IntKind.i64.wrap 1 = 1 := by decide
    have wr2 : IntKind.i64.wrap 2 = 2 := by decide
    go_region_with (first | (go_at_call 23; refine (bring_eq t 4 _ _ t0 t1 (by omega) (by omega) HD.out).mono ?_; rintro e w' ⟨rfl, rfl⟩) | (go_at_call 9; refine (demand_ok a b c k _ _ h k0 k1 (by omega) (by omega)).mono ?_; rintro e w3 ⟨rfl, hb⟩; obtain ⟨hc, hf⟩ := bcellD hb; have hz : w.heap.size + 2 < w3.heap.size := (by have := hb.size; simp at this; omega); have hz1 : w.heap.size + 1 < w3.heap.size := (by omega); have hz0 : w.heap.size < w3.heap.size := (by omega)))
    all_goals
      go_wp2
      refine bodyPost_ret (v := ?_) ?_ rfl ?_
      rotate_left
      · simp [results, Try.results24, go_sem, hc, hz]; rfl
      refine out_of (by go_grown; exact below_after (by go_grown) hb) ?_ ?_ ?_ <;> rfl
set_option maxHeartbeats 1000000 in
theorem deed_take (a b c t s k : Int) (w : World) (h : ok3 a b c) (t0 : -9223372036854775808 ≤ t) (t1 : t ≤ 9223372036854775807) (s0 : -9223372036854775808 ≤ s) (s1 : s ≤ 9223372036854775807) (hk : s % 3 = k) (hd : t % 4 = 2) (hg : getS a b c k ≠ 0) :
    Calls Try.prog 24 #[.agg #[.int .i64 a, .int .i64 b, .int .i64 c], .agg #[.int .i64 t, .int .i64 s]] w (Out (setA a k (getS a b c k - 1)) (setB b k (getS a b c k - 1)) (setC c k (getS a b c k - 1)) 0 w) := by
  have k0 : 0 ≤ k := by omega
  have k1 : k < 3 := by omega
  have HK : Hid (s % 3 = k) := hk
  have HD : Hid (t % 4 = 2) := hd
  clear hk hd
  go_enter Try.func24, Try.ntmps24
  go_wp2_with fail
  refine (bring_eq s 3 k _ s0 s1 (by omega) (by omega) HK.out).mono ?_; rintro e w' ⟨rfl, rfl⟩
  go_wp2_with fail
  refine (bring_eq t 4 _ _ t0 t1 (by omega) (by omega) HD.out).mono ?_; rintro e w' ⟨rfl, rfl⟩
  go_wp2_with (go_at_call 12; refine (take_ok a b c k _ h k0 k1 hg).mono ?_; rintro e w3 ⟨rfl, hb⟩; obtain ⟨hc, hf⟩ := bcell hb; have hz : w.heap.size + 2 < w3.heap.size := (by have := hb.size; simp at this; omega); have hz1 : w.heap.size + 1 < w3.heap.size := (by omega); have hz0 : w.heap.size < w3.heap.size := (by omega))
  all_goals
    all_goals
      refine bodyPost_ret (v := ?_) ?_ rfl ?_
      rotate_left
      · simp [results, Try.results24, go_sem, hc, hz]; rfl
      refine out_of (by go_grown; exact below_after (by go_grown) hb) ?_ ?_ ?_ <;> rfl

set_option maxHeartbeats 1000000 in
theorem deed_none (a b c t s k : Int) (w : World) (h : ok3 a b c) (t0 : -9223372036854775808 ≤ t) (t1 : t ≤ 9223372036854775807) (s0 : -9223372036854775808 ≤ s) (s1 : s ≤ 9223372036854775807) (hk : s % 3 = k) (hd : t % 4 = 2) (hg : getS a b c k = 0) :
    Calls Try.prog 24 #[.agg #[.int .i64 a, .int .i64 b, .int .i64 c], .agg #[.int .i64 t, .int .i64 s]] w (Out 0 0 0 5 w) := by
  have k0 : 0 ≤ k := by omega
  have k1 : k < 3 := by omega
  have HK : Hid (s % 3 = k) := hk
  have HD : Hid (t % 4 = 2) := hd
  have HG : Hid (getS a b c k = 0) := hg
  clear hk hd hg
  go_enter Try.func24, Try.ntmps24
  go_wp2_with fail
  refine (bring_eq s 3 k _ s0 s1 (by omega) (by omega) HK.out).mono ?_; rintro e w' ⟨rfl, rfl⟩
  go_wp2_with fail
  refine (bring_eq t 4 _ _ t0 t1 (by omega) (by omega) HD.out).mono ?_; rintro e w' ⟨rfl, rfl⟩
  go_wp2_with (go_at_call 12; refine (take_none a b c k _ h k0 k1 HG.out).mono ?_; rintro e w3 ⟨rfl, hb⟩; obtain ⟨hc, hf⟩ := bcell hb; have hz : w.heap.size + 2 < w3.heap.size := (by have := hb.size; simp at this; omega); have hz1 : w.heap.size + 1 < w3.heap.size := (by omega); have hz0 : w.heap.size < w3.heap.size := (by omega))
  all_goals
    all_goals
      refine bodyPost_ret (v := ?_) ?_ rfl ?_
      rotate_left
      · simp [results, Try.results24, go_sem, hc, hz]; rfl
      refine out_of (by go_grown; exact below_after (by go_grown) hb) ?_ ?_ ?_ <;> rfl

set_option maxHeartbeats 1000000 in
theorem deed_drop (a b c t s k : Int) (w : World) (h : ok3 a b c) (t0 : -9223372036854775808 ≤ t) (t1 : t ≤ 9223372036854775807) (s0 : -9223372036854775808 ≤ s) (s1 : s ≤ 9223372036854775807) (hk : s % 3 = k) (hd : t % 4 = 3) :
    Calls Try.prog 24 #[.agg #[.int .i64 a, .int .i64 b, .int .i64 c], .agg #[.int .i64 t, .int .i64 s]] w (Out (setA a k 0) (setB b k 0) (setC c k 0) 0 w) := by
  have k0 : 0 ≤ k := by omega
  have k1 : k < 3 := by omega
  have HK : Hid (s % 3 = k) := hk
  have HD : Hid (t % 4 = 3) := hd
  clear hk hd
  go_enter Try.func24, Try.ntmps24
  go_wp2_with fail
  refine (bring_eq s 3 k _ s0 s1 (by omega) (by omega) HK.out).mono ?_; rintro e w' ⟨rfl, rfl⟩
  go_wp2_with fail
  refine (bring_eq t 4 _ _ t0 t1 (by omega) (by omega) HD.out).mono ?_; rintro e w' ⟨rfl, rfl⟩
  go_wp2_with (go_at_call 14; refine (drop_ok a b c k _ h k0 k1).mono ?_; rintro e w3 ⟨rfl, hb⟩; obtain ⟨hc, hf⟩ := bcell hb; have hz : w.heap.size + 2 < w3.heap.size := (by have := hb.size; simp at this; omega); have hz1 : w.heap.size + 1 < w3.heap.size := (by omega); have hz0 : w.heap.size < w3.heap.size := (by omega))
  all_goals
    all_goals
      refine bodyPost_ret (v := ?_) ?_ rfl ?_
      rotate_left
      · simp [results, Try.results24, go_sem, hc, hz]; rfl
      refine out_of (by go_grown; exact below_after (by go_grown) hb) ?_ ?_ ?_ <;> rfl

/-- WHAT A DEED ANSWERS. -/
theorem deed_any (a b c t s k d : Int) (w : World) (h : ok3 a b c) (t0 : -9223372036854775808 ≤ t) (t1 : t ≤ 9223372036854775807) (s0 : -9223372036854775808 ≤ s) (s1 : s ≤ 9223372036854775807) (hk : s % 3 = k) (hd : t % 4 = d) (hb : bad d (getS a b c k) = false) :
    Calls Try.prog 24 #[.agg #[.int .i64 a, .int .i64 b, .int .i64 c], .agg #[.int .i64 t, .int .i64 s]] w (Out (setA a k (nv d (getS a b c k))) (setB b k (nv d (getS a b c k))) (setC c k (nv d (getS a b c k))) 0 w) := by
  obtain rfl | rfl | rfl | rfl : d = 0 ∨ d = 1 ∨ d = 2 ∨ d = 3 := by omega
  · exact deed_dem a b c t s k 0 1 w h t0 t1 s0 s1 hk hd (Or.inl ⟨rfl, rfl⟩)
  · exact deed_dem a b c t s k 1 2 w h t0 t1 s0 s1 hk hd (Or.inr ⟨rfl, rfl⟩)
  · exact deed_take a b c t s k w h t0 t1 s0 s1 hk hd (by simpa [bad] using hb)
  · exact deed_drop a b c t s k w h t0 t1 s0 s1 hk hd
theorem deed_bad (a b c t s k d : Int) (w : World) (h : ok3 a b c) (t0 : -9223372036854775808 ≤ t) (t1 : t ≤ 9223372036854775807) (s0 : -9223372036854775808 ≤ s) (s1 : s ≤ 9223372036854775807) (hk : s % 3 = k) (hd : t % 4 = d) (hb : bad d (getS a b c k) = true) :
    Calls Try.prog 24 #[.agg #[.int .i64 a, .int .i64 b, .int .i64 c], .agg #[.int .i64 t, .int .i64 s]] w (Out 0 0 0 5 w) := by
  simp only [bad, Bool.and_eq_true, decide_eq_true_eq] at hb
  obtain ⟨rfl, hg⟩ := hb
  exact deed_none a b c t s k w h t0 t1 s0 s1 hk hd hg
theorem nv_in {d g : Int} (d0 : 0 ≤ d) (d1 : d < 4) (g0 : 0 ≤ g) (g1 : g ≤ 2) (hb : bad d g = false) : 0 ≤ nv d g ∧ nv d g ≤ 2 := by
  unfold nv
  by_cases h2 : d = 2
  · have : g ≠ 0 := by subst h2; simpa [bad] using hb
    subst h2; simp; omega
  · repeat' split <;> omega
end Go.Proofs.Ytfebopgljcagnaa
