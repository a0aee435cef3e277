/-
  The contracts of Live (a new list of the spaces that live), EqInts, Bring.
-/
import Derived.Test.YtkhjfknmjbffdaaMeth
import Derived.Laws.AppendOwn
import Derived.Laws.OwnMore
import Derived.OwnWalk
import Derived.Lib.QuietBelow
import Derived.BigQuiet
namespace Go.Proofs.Ytkhjfknmjbffdaa
open Go.RowKit Go.Sort
set_option linter.unusedVariables false
set_option linter.unusedSimpArgs false

theorem bring_eq (i n v : Int) (w : World) (i0 : -9223372036854775808 ≤ i) (i1 : i ≤ 9223372036854775807) (n0 : 0 < n) (n1 : n ≤ 9223372036854775807) (h : i % n = v) :
    Calls Try.prog 11 #[.int .i64 i, .int .i64 n] w fun e w' => e = .returned (.int .i64 v) ∧ w = w' := by
  subst h
  have hn : ¬ n = 0 := by omega
  have m0 := Int.emod_nonneg i hn
  have m1 := Int.emod_lt_of_pos i n0
  have he : i.tmod n = i % n - (if 0 ≤ i ∨ n ∣ i then 0 else (n.natAbs : Int)) := by
    have := @Int.tmod_eq_emod i n
    rw [this]; split <;> simp
  have hd' : ¬ (n ∣ i) → 0 < i % n := fun h => by
    have : i % n ≠ 0 := fun e => h (Int.dvd_of_emod_eq_zero e)
    omega
  have hna : (n.natAbs : Int) = n := by omega
  rw [hna] at he
  by_cases hc : 0 ≤ i ∨ n ∣ i
  · rw [if_pos hc] at he
    have hlt : ¬ i % n < 0 := by omega
    clear hd' hna
    simp only [Int.sub_zero] at he
    clear hc
    go_enter Try.func11, Try.ntmps11
    go_wp2
    go_ret
    exact ⟨rfl, rfl⟩
  · rw [if_neg hc] at he
    have hp : 0 < i % n := hd' (fun h => hc (Or.inr h))
    have hlt : i % n - n < 0 := by omega
    have hs : i % n - n + n = i % n := by omega
    clear hd' hna hc
    go_enter Try.func11, Try.ntmps11
    go_wp2
    go_ret
    exact ⟨rfl, rfl⟩

/-- The slice reads as the list. -/
def IsInts (w : World) (v : Value) (xs : List Int) : Prop :=
  (xs = [] ∧ ∃ a c, v = .slice a 0 c) ∨ ∃ b off c, v = .slice (some ⟨b, off, none⟩) xs.length c ∧ ∀ i : Nat, i < xs.length → w.cell? ⟨b, off + i, none⟩ = some (.int .i64 (xs.getD i 0))
theorem IsInts.keep {w w' : World} {v : Value} {xs : List Int} (h : IsInts w v xs) (hb : Below w.heap.size w w') : IsInts w' v xs := by
  rcases h with h | ⟨b, off, c, hv, hc⟩
  · exact Or.inl h
  · exact Or.inr ⟨b, off, c, hv, fun i hi => keep_cell hb (hc i hi)⟩
theorem ints_of_own {w : World} {B : Nat} {v : Value} {xs : List Int} (h : w.ownsRow B 3 1 v xs.length (xs.map (Value.int .i64))) : IsInts w v xs := by
  obtain ⟨hl, h | ⟨g, cap, cur, hv, hB, hg, hn, hcap, hsz, hcur⟩⟩ := h
  · refine Or.inl ⟨List.length_eq_zero_iff.1 h.2, none, 0, ?_⟩
    exact h.1
  · refine Or.inr ⟨g, 0, cap, hv, fun i hi => ?_⟩
    have hc : w.cell? ⟨g, 0 + i, none⟩ = cur[i]? := by simp [World.cell?, hg]
    rw [hc, ← Array.getElem?_toList]
    have : (cur.toList.take (xs.length * 1))[i]? = cur.toList[i]? := by rw [List.getElem?_take]; simp [hi]
    rw [← this, hcur]
    simp [hi]

/-- The first so many spaces' that live. -/
def liveN (S : HS) : Nat → List Int
  | 0 => []
  | n + 1 => if S.lives (n : Int) = true then liveN S n ++ [(n : Int)] else liveN S n
theorem liveN_len (S : HS) (n : Nat) : (liveN S n).length ≤ n := by
  induction n with
  | zero => exact Nat.le_refl _
  | succ n ih =>
    unfold liveN; split
    · simp; omega
    · omega
def LRel (w : World) (S : HS) (v i : Value) (wr : World) : Prop :=
  ∃ k : Nat, i = .int .i64 (k : Int) ∧ k ≤ 3 ∧ wr.ownsRow w.heap.size 3 1 v (liveN S k).length ((liveN S k).map (Value.int .i64)) ∧ Below w.heap.size w wr
theorem Try.info3 : (Try.prog.info? 3).map (fun i => (i.zero, i.size, i.bytes)) = some (some (.int .i64 0), 1, 8) := by kernel_rfl

set_option maxHeartbeats 1000000 in
theorem live_any (b : Nat) (S : HS) (w : World) (h : IsHand w b S) (hok : S.ok) :
    Calls Try.prog 21 #[.pointer (some ⟨b, 0, none⟩)] w fun e w' => ∃ v, e = .returned v ∧ IsInts w' v (liveN S 3) ∧ Below w.heap.size w w' := by
  obtain ⟨i0, hi, hz0, hz1, hz2⟩ := info_parts Try.info3
  go_enter Try.func21, Try.ntmps21
  go_wp2_with fail
  go_loopw [2, 4] (LRel w S) (fun _ i _ => (3 - intOf i).toNat)
  case atStart => exact ⟨0, rfl, by omega, World.ownsRow_nil _ _ _ _, Below.refl _ _⟩
  case round =>
    obtain ⟨k, rfl, hk3, hown, bel⟩ := hrel
    have hlen := liveN_len S k
    have hh := h.keep bel
    by_cases hlt : k < 3
    · go_wp2_with fail
      refine (lives_any b S (k : Int) _ hh hok).mono ?_; rintro e w' ⟨rfl, rfl⟩
      cases hl : S.lives (k : Int)
      · have e1 : liveN S (k + 1) = liveN S k := by rw [liveN, hl]; rfl
        have H := hide e1
        clear hl e1
        go_wp2_with fail
        go_roundw
        case rel => exact ⟨k + 1, by go_num, by omega, by rw [H.out]; exact hown, bel⟩
        case measure => simp [intOf]; omega
      · have e1 : liveN S (k + 1) = liveN S k ++ [(k : Int)] := by rw [liveN, hl]; rfl
        have H := hide e1
        clear hl e1
        go_wp2_with (at_builtin; refine wpList_append_own _ rfl _ _ 36 rfl w.heap.size 3 i0 (.int .i64 0) 1 8 Try.underlying36 hi hz0 hz1 hz2 rfl (by decide) _ _ _ rfl (hown.alloc _) ⟨wr.heap.size, 0, none⟩ 1 1 [.int .i64 (k : Int)] rfl rfl ?c1 ?c2 ?c3 ?c4 ?c5 ?_)
        case c1 => exact cell_one_new _ _ _
        case c2 => simp [Value.oneCell']
        case c3 => unfold maxLen; omega
        case c4 => omega
        case c5 => have := bel.size; simp; omega
        intro v' w1 hown' hgrow _
        go_wp2_with fail
        go_roundw
        case rel =>
          refine ⟨k + 1, by go_num, by omega, ?_, ?_⟩
          · rw [H.out]; simpa using hown'
          · exact (bel.alloc bel.size _).grown hgrow (by have := bel.size; simp; omega) (fun k hk => (hown.lt k hk).1)
        case measure => simp [intOf]; omega
    · have : k = 3 := by omega
      subst this
      go_wp2
      go_ret
      exact ⟨_, rfl, ints_of_own hown, bel⟩

theorem eq_take {xs ys : List Int} {k : Nat} (hk : k < xs.length) (hl : xs.length = ys.length) (h : ∀ i, i < k → xs.getD i 0 = ys.getD i 0) (hn : xs.getD k 0 = ys.getD k 0) : ∀ i, i < k + 1 → xs.getD i 0 = ys.getD i 0 := by
  intro i hi
  rcases Nat.lt_succ_iff_lt_or_eq.1 hi with hi | rfl
  · exact h i hi
  · exact hn
theorem eq_of_all {xs ys : List Int} (hl : xs.length = ys.length) (h : ∀ i, i < xs.length → xs.getD i 0 = ys.getD i 0) : xs = ys := by
  apply List.ext_getElem hl
  intro i h1 h2
  have := h i h1
  simpa [List.getD, h1, h2] using this

set_option maxHeartbeats 1000000 in
theorem eqInts_ne (a b : Option Addr) (n m c d : Nat) (w : World) (hn : n ≤ 9223372036854775807) (hm : m ≤ 9223372036854775807) (h : n ≠ m) :
    Calls Try.prog 20 #[.slice a n c, .slice b m d] w fun e w' => e = .returned (.bool false) ∧ Below w.heap.size w w' := by
  have hne : ((n : Int) != (m : Int)) = true := by simp; omega
  clear h
  go_enter Try.func20, Try.ntmps20
  go_wp2
  go_ret
  exact ⟨rfl, Below.refl _ _⟩
set_option maxHeartbeats 1000000 in
theorem eqInts_zero (a b : Option Addr) (c d : Nat) (w : World) :
    Calls Try.prog 20 #[.slice a 0 c, .slice b 0 d] w fun e w' => e = .returned (.bool true) ∧ Below w.heap.size w w' := by
  go_enter Try.func20, Try.ntmps20
  go_wp2_with fail
  refine wp_loop_rounds 1 ?_
  rw [rounds_succ]
  go_wp2
  go_ret
  exact ⟨rfl, Below.refl _ _⟩

set_option maxHeartbeats 1000000 in
theorem eqInts_same (ba oa bb ob c d : Nat) (xs ys : List Int) (w : World) (hl : xs.length = ys.length) (hx63 : xs.length ≤ 9223372036854775807)
    (hx : ∀ i : Nat, i < xs.length → w.cell? ⟨ba, oa + i, none⟩ = some (.int .i64 (xs.getD i 0))) (hy : ∀ i : Nat, i < ys.length → w.cell? ⟨bb, ob + i, none⟩ = some (.int .i64 (ys.getD i 0))) :
    Calls Try.prog 20 #[.slice (some ⟨ba, oa, none⟩) xs.length c, .slice (some ⟨bb, ob, none⟩) xs.length d] w fun e w' => e = .returned (.bool (decide (xs = ys))) ∧ Below w.heap.size w w' := by
  obtain ⟨n, hn⟩ : ∃ n, n = xs.length := ⟨_, rfl⟩
  rw [← hn] at hx hx63 ⊢
  rw [← hl, ← hn] at hy
  have HX := hide hx
  have HY := hide hy
  have HL := hide (And.intro hl hn)
  clear hx hy hl hn
  go_enter Try.func20, Try.ntmps20
  go_wp2_with fail
  go_loopw [5] (fun i wr => ∃ k : Nat, i = .int .i64 (k : Int) ∧ k ≤ n ∧ (∀ j, j < k → xs.getD j 0 = ys.getD j 0) ∧ Below w.heap.size w wr) (fun i _ => (n - (intOf i).toNat))
  case atStart => exact ⟨0, rfl, by omega, fun j hj => by omega, Below.refl _ _⟩
  case round =>
    obtain ⟨k, rfl, hk, heq, bel⟩ := hrel
    have HE := hide heq
    clear heq
    by_cases hlt : k < n
    · have cx := keep_cell bel (HX.out k hlt)
      have cy := keep_cell bel (HY.out k hlt)
      obtain ⟨x, hx⟩ : ∃ x, xs.getD k 0 = x := ⟨_, rfl⟩
      obtain ⟨y, hy⟩ : ∃ y, ys.getD k 0 = y := ⟨_, rfl⟩
      rw [hx] at cx
      rw [hy] at cy
      have qx := cell_regrown cx
      have qy := cell_regrown cy
      have HXY := hide (And.intro hx hy)
      clear cx cy hx hy
      go_wp2_with fail
      refine wp_region_quiet_below (by kernel_rfl) (by kernel_rfl) ?_
      repeat (go_big_quiet_step (fail))
      refine wpQuiet_nil ?_
      intro W2 hw2
      obtain ⟨⟨dq, osq⟩, hw3⟩ := hw2
      have hbq : Below wr.heap.size wr W2 := by rw [hw3]; exact below_regrown wr dq osq
      clear hw3 qx qy
      have bel2 := below_after bel hbq
      by_cases he : x = y
      · have e1 : (x != y) = false := by simp only [he, bne_self_eq_false]
        have HN := hide (show xs.getD k 0 = ys.getD k 0 by rw [HXY.out.1, HXY.out.2, he])
        clear he
        go_wp2_with fail
        go_roundw
        case rel => exact ⟨k + 1, by go_num, by omega, eq_take (by rw [← HL.out.2]; exact hlt) HL.out.1 HE.out HN.out, bel2⟩
        case measure => simp [intOf]; omega
      · have e1 : (x != y) = true := by rw [bne_iff_ne]; exact he
        have hf : decide (xs = ys) = false := by
          rw [decide_eq_false_iff_not]; intro hxy; exact he (by rw [← HXY.out.1, ← HXY.out.2, hxy])
        have HF := hide hf
        clear he hf
        go_wp2
        go_ret
        exact ⟨by rw [HF.out]; rfl, bel2⟩
    · have hkn : k = n := by omega
      have ht : decide (xs = ys) = true := by
        rw [decide_eq_true_eq]
        exact eq_of_all HL.out.1 (fun i hi => HE.out i (by have := HL.out.2; omega))
      have HT := hide ht
      clear ht
      subst hkn
      go_wp2
      go_ret
      exact ⟨by rw [HT.out]; rfl, bel⟩

/-- EqInts answers whether two lists are the same. -/
theorem eqInts_any (u v : Value) (xs ys : List Int) (w : World) (hu : IsInts w u xs) (hv : IsInts w v ys) (hx : xs.length ≤ 9223372036854775807) (hy : ys.length ≤ 9223372036854775807) :
    Calls Try.prog 20 #[u, v] w fun e w' => e = .returned (.bool (decide (xs = ys))) ∧ Below w.heap.size w w' := by
  have hne : xs.length ≠ ys.length → decide (xs = ys) = false := fun h => by rw [decide_eq_false_iff_not]; intro e; exact h (by rw [e])
  rcases hu with ⟨rfl, a, c, rfl⟩ | ⟨ba, oa, c, rfl, hcx⟩
  · rcases hv with ⟨rfl, b, d, rfl⟩ | ⟨bb, ob, d, rfl, hcy⟩
    · exact eqInts_zero a b c d w
    · by_cases h0 : ys.length = 0
      · have := List.length_eq_zero_iff.1 h0; subst this
        exact eqInts_zero a _ c d w
      · rw [hne (fun h => h0 (by simpa using h.symm))]
        exact eqInts_ne a _ 0 ys.length c d w (by omega) hy (by omega)
  · rcases hv with ⟨rfl, b, d, rfl⟩ | ⟨bb, ob, d, rfl, hcy⟩
    · by_cases h0 : xs.length = 0
      · have := List.length_eq_zero_iff.1 h0; subst this
        exact eqInts_zero _ b c d w
      · rw [hne (fun h => h0 (by simpa using h))]
        exact eqInts_ne _ b xs.length 0 c d w hx (by omega) (by omega)
    · by_cases hl : xs.length = ys.length
      · rw [← hl]
        exact eqInts_same ba oa bb ob c d xs ys w hl hx hcx hcy
      · rw [hne hl]
        exact eqInts_ne _ _ xs.length ys.length c d w hx hy hl
end Go.Proofs.Ytkhjfknmjbffdaa
