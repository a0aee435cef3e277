/-
  The walk of HandRefuses: a call that is refused changes nothing, one that is taken is taken again, but that of the keys that are gone: it answers true whatever the calls, and turns nothing that was there.
-/
import Derived.Test.YtkhjfknmjbffdaaWorks
namespace Go.Proofs.Ytkhjfknmjbffdaa
open Go.RowKit Go.Sort
set_option linter.unusedVariables false
set_option linter.unusedSimpArgs false

theorem refuses_ne (S : HS) (q p : Int) (h : S.callE q p ≠ 0) : S.callS q p = S := by
  revert h; unfold HS.callE HS.callS
  split
  · unfold HS.keysE HS.keysS
    intro h
    rw [if_neg]; intro hh; rw [if_pos hh.1, if_neg (by omega)] at h; exact h rfl
  split
  · unfold HS.discE HS.discS
    intro h
    rw [if_neg]; intro hh; rw [if_neg hh.1] at h; exact h hh.2
  split
  · intro h; exact absurd rfl h
  split
  · intro h; unfold HS.confS; rw [if_neg h]
  · intro h; unfold HS.ansS; rw [if_neg (fun hh => h hh.1)]
theorem st_putx (S : HS) (i x : Int) (i0 : 0 ≤ i) (i3 : i < 3) : (S.put i x).st i = x := by
  obtain rfl | rfl | rfl : i = 0 ∨ i = 1 ∨ i = 2 := by omega
  all_goals simp [HS.put, HS.st]
theorem refuses_eq (S : HS) (q p : Int) (p0 : 0 ≤ p) (p3 : p < 3) (h : S.callE q p = 0) : (S.callS q p).callE q p = if q = 2 then 160 else 0 := by
  revert h; unfold HS.callE HS.callS
  split
  · rename_i hq
    rw [if_neg (show ¬ q = 2 by omega)]
    unfold HS.keysE HS.keysS
    rw [if_pos ⟨p0, p3⟩]
    intro h
    have h2 : S.st p ≠ 2 := by intro h2; rw [if_pos h2] at h; omega
    by_cases h3 : S.st p = 0
    · simp [h3, p0, p3, st_putx S p 1 p0 p3]
    · simp [h3, p0, p3, h2]
  split
  · unfold HS.discE HS.discS
    intro h
    have h2 : p ≠ 2 := by intro h2; rw [if_pos h2] at h; omega
    rw [if_neg h2] at h
    rename_i hq
    have e1 : (S.put p 2).needs p = 160 := by unfold HS.needs; rw [if_pos ⟨p0, p3⟩, st_putx S p 2 p0 p3, if_neg (by omega)]
    simp [h2, h, hq, e1]
  split
  · intro h; rfl
  split
  · intro h; unfold HS.confS; rw [if_pos h]; exact h
  · intro h; unfold HS.ansS
    split
    · exact h
    · exact h
/-- A box that holds a call. -/
def IsCallBox (w : World) (n : Nat) (t s : Int) : Prop := w.heap[n]? = some (.cells #[.int .i64 t, .int .i64 s] 27 (0, 0))
theorem IsCallBox.lt {w : World} {b : Nat} {t s : Int} (h : IsCallBox w b t s) : b < w.heap.size := by
  unfold IsCallBox at h
  rcases Nat.lt_or_ge b w.heap.size with h' | h'
  · exact h'
  · rw [Array.getElem?_eq_none h'] at h; cases h
theorem IsCallBox.keep {W w' : World} {b : Nat} {t s : Int} (h : IsCallBox W b t s) (hb : Below W.heap.size W w') : IsCallBox w' b t s := (hb.block b h.lt).trans h
theorem IsCallBox.away {w w' : World} {b d : Nat} {t s : Int} (h : IsCallBox w d t s) (k : Only b w w') (hne : d ≠ b) : IsCallBox w' d t s := (k.block d h.lt hne).trans h
theorem IsCallBox.cells {w : World} {b : Nat} {t s : Int} (h : IsCallBox w b t s) : w.cell? ⟨b, 0, none⟩ = some (.int .i64 t) ∧ w.cell? ⟨b, 0 + 1, none⟩ = some (.int .i64 s) := by
  unfold IsCallBox at h; constructor <;> simp [World.cell?, h]
theorem IsCallBox.made (w : World) (t s : Int) : IsCallBox (w.alloc (.cells #[.int .i64 t, .int .i64 s] 27)) w.heap.size t s := by
  unfold IsCallBox
  show (w.heap.push _)[w.heap.size]? = _
  simp
def VRel (w : World) (b d n : Nat) (S : HS) (t s : Int) (i : Value) (wr : World) : Prop :=
  ∃ x : Int, i = .int .i64 x ∧ 0 ≤ x ∧ x ≤ 3 ∧ IsHand wr b S ∧ IsHand wr d S ∧ Below w.heap.size w wr ∧ IsCallBox wr n t s

set_option maxRecDepth 100000 in
set_option maxHeartbeats 8000000 in
theorem handRefuses_any (sv : Bool) (a : Option Addr) (len cap : Nat) (z : Nat → Nat → Int) (t s : Int) (w : World) (hz : IsRows w a len 2 z)
    (lo0 : -9223372036854775808 ≤ t) (hi0 : t ≤ 9223372036854775807) (lo1 : -9223372036854775808 ≤ s) (hi1 : s ≤ 9223372036854775807) :
    Calls Try.prog 4 #[.bool sv, .slice a len cap, .agg #[.int .i64 t, .int .i64 s]] w fun e w' => e = .returned (.bool true) ∧ Below w.heap.size w w' := by
  have hlen := hz.1
  unfold maxLen at hlen
  have hok := ok_play (ok_start sv) z (min len 60)
  obtain ⟨S, hSS⟩ : ∃ S, S = playN (HS.start sv) z (min len 60) := ⟨_, rfl⟩
  rw [← hSS] at hok
  obtain ⟨q, hq⟩ : ∃ q, t % 6 = q := ⟨_, rfl⟩
  obtain ⟨p, hpp⟩ : ∃ p, s % 3 = p := ⟨_, rfl⟩
  have p0 : 0 ≤ p := by omega
  have p3 : p < 3 := by omega
  have hne := refuses_ne S q p
  have heq := refuses_eq S q p p0 p3
  have H := hide (And.intro hq (And.intro hpp (And.intro hne heq)))
  clear hq hpp hne heq
  obtain ⟨W, hW⟩ : ∃ W, W = w.alloc (.cells #[.int .i64 t, .int .i64 s] 27) := ⟨_, rfl⟩
  have bel : Below w.heap.size w W := by rw [hW]; exact below_alloc1 w _
  have hx : IsCallBox W w.heap.size t s := by rw [hW]; exact IsCallBox.made w t s
  have hnW := hx.lt
  have hzW : IsRows W a len 2 z := hz.keep bel
  have HW := hide hW
  clear hW
  go_enter Try.func4, Try.ntmps4
  go_wp2_with fail
  rw [← HW.out]
  refine (played_any sv a len cap z W hzW).mono ?_; rintro e w1 ⟨b, rfl, hB, hh, hb⟩
  rw [← hSS] at hh
  have hB1 := hh.lt
  replace hx := hx.keep hb
  have hz1 := hzW.keep hb
  have hnb : w.heap.size ≠ b := by omega
  have hBw : w.heap.size ≤ b := by omega
  replace bel := below_after bel hb
  clear hb
  go_wp2_with fail
  refine (played_any sv a len cap z w1 hz1).mono ?_; rintro e w2 ⟨d, rfl, hD, hd, hb⟩
  rw [← hSS] at hd
  clear hSS
  have hbd : b ≠ d := by omega
  replace hh := hh.keep hb
  replace hx := hx.keep hb
  replace bel := below_after bel hb
  clear hb hz1 hzW hz
  have hDw : w.heap.size ≤ d := by omega
  have hnd : w.heap.size ≠ d := by omega
  obtain ⟨E, hE⟩ : ∃ E, S.callE q p = E := ⟨_, rfl⟩
  obtain ⟨c0, c1⟩ := hx.cells
  go_wp2_with fail
  refine (call_any b S t s q p _ hh hok lo0 hi0 lo1 hi1 H.out.1 H.out.2.1).mono ?_; rintro e w3 ⟨rfl, hh1, ho⟩
  rw [hE]
  have hd1 := hd.away ho hbd.symm
  have hx1 := hx.away ho hnb
  have bel1 := ho.below bel hBw bel.size
  clear hh hd hx ho bel c0 c1
  by_cases h0 : E = 0
  · subst h0
    have h2 := H.out.2.2.2 hE
    have hok1 := ok_call hok q p
    obtain ⟨S', hS'⟩ : ∃ S', S.callS q p = S' := ⟨_, rfl⟩
    rw [hS'] at h2 hh1 hok1
    obtain ⟨c0, c1⟩ := hx1.cells
    go_wp2_with fail
    refine (call_any b S' t s q p _ hh1 hok1 lo0 hi0 lo1 hi1 H.out.1 H.out.2.1).mono ?_; rintro e w4 ⟨rfl, hh2, ho⟩
    rw [h2]
    obtain ⟨X, hX⟩ : ∃ X : Int, (if q = 2 then 160 else 0) = X := ⟨_, rfl⟩
    rw [hX]
    have HX := hide hX
    clear hX
    have hx2 := hx1.away ho hnb
    have bel2 := ho.below bel1 hBw bel1.size
    clear ho c0 c1 hh1 hd1 hx1 bel1 hE hS' h2 hh2 hok1 hok
    obtain ⟨c0, c1⟩ := hx2.cells
    go_wp2_with fail
    refine (bring_eq t 6 q _ lo0 hi0 (by omega) (by omega) H.out.1).mono ?_; rintro e w' ⟨rfl, rfl⟩
    by_cases hq2 : q = 2
    · obtain rfl : X = 160 := by rw [← HX.out, if_pos hq2]
      subst hq2
      go_wp2_with fail
      refine (works_any _).mono ?_; rintro e wx ⟨rfl, hb⟩
      go_wp2_with fail
      go_ret
      exact ⟨rfl, below_after bel2 hb⟩
    · obtain rfl : X = 0 := by rw [← HX.out, if_neg hq2]
      go_wp2_with fail
      refine (works_any _).mono ?_; rintro e wx ⟨rfl, hb⟩
      go_wp2_with fail
      go_ret
      exact ⟨rfl, below_after bel2 hb⟩
  · have h2 := H.out.2.2.1 (by rw [hE]; exact h0)
    rw [h2] at hh1
    go_wp2_with fail
    have hb0 : (E != 0) = true := by simpa using h0
    rw [hb0]
    clear hb0
    go_loopw [10] (VRel w b d w.heap.size S t s) (fun i _ => (3 - intOf i).toNat)
    case atStart => exact ⟨0, rfl, by omega, by omega, hh1, hd1, bel1, hx1⟩
    case round =>
      clear hh1 hd1 bel1 hx1
      obtain ⟨x, rfl, x0, x3, hh1, hd1, bel1, hx1⟩ := hrel
      by_cases hx : x < 3
      · obtain ⟨L, hL⟩ : ∃ L, S.lives x = L := ⟨_, rfl⟩
        obtain ⟨M, hM⟩ : ∃ M, S.has x = M := ⟨_, rfl⟩
        have cA := fun W c (h : IsHand W c S) => (lives_any c S x W h hok)
        have cB := fun W c (h : IsHand W c S) => (has_any c S x W h hok)
        rw [hL] at cA
        rw [hM] at cB
        replace cA := hide cA
        replace cB := hide cB
        clear hL hM
        go_wp2_with fail
        refine (cA.out _ _ hh1).mono ?_; rintro e w' ⟨rfl, rfl⟩
        go_wp2_with fail
        refine (cA.out _ _ hd1).mono ?_; rintro e w' ⟨rfl, rfl⟩
        cases L
        all_goals
          go_wp2_with fail
          refine (cB.out _ _ hh1).mono ?_; rintro e w' ⟨rfl, rfl⟩
          go_wp2_with fail
          refine (cB.out _ _ hd1).mono ?_; rintro e w' ⟨rfl, rfl⟩
          cases M
          all_goals
            go_wp2_with fail
            go_roundw
            case rel => exact ⟨x + 1, rfl, by omega, by omega, hh1, hd1, bel1, hx1⟩
            case measure => simp [intOf]; omega
      · obtain rfl : x = 3 := by omega
        obtain ⟨A, hA⟩ : ∃ A, S.v = A := ⟨_, rfl⟩
        obtain ⟨C, hC⟩ : ∃ C, S.c = C := ⟨_, rfl⟩
        obtain ⟨U, hU⟩ : ∃ U, S.sure = U := ⟨_, rfl⟩
        have cA := fun W c (h : IsHand W c S) => (valid_any c S W h hok)
        have cC := fun W c (h : IsHand W c S) => (confirmed_any c S W h hok)
        have cU := fun W c (h : IsHand W c S) => (sure_any c S W h hok)
        rw [hA] at cA
        rw [hC] at cC
        rw [hU] at cU
        replace cA := hide cA
        replace cC := hide cC
        replace cU := hide cU
        clear hA hC hU
        obtain ⟨c0, c1⟩ := hx1.cells
        go_wp2_with fail
        refine (cA.out _ _ hh1).mono ?_; rintro e w' ⟨rfl, rfl⟩
        go_wp2_with fail
        refine (cA.out _ _ hd1).mono ?_; rintro e w' ⟨rfl, rfl⟩
        cases A
        all_goals
          go_wp2_with fail
          refine (cC.out _ _ hh1).mono ?_; rintro e w' ⟨rfl, rfl⟩
          go_wp2_with fail
          refine (cC.out _ _ hd1).mono ?_; rintro e w' ⟨rfl, rfl⟩
          cases C
          all_goals
            go_wp2_with fail
            refine (cU.out _ _ hh1).mono ?_; rintro e w' ⟨rfl, rfl⟩
            go_wp2_with fail
            refine (cU.out _ _ hd1).mono ?_; rintro e w' ⟨rfl, rfl⟩
            cases U
            all_goals
              go_wp2_with fail
              refine (call_any b S t s q p _ hh1 hok lo0 hi0 lo1 hi1 H.out.1 H.out.2.1).mono ?_; rintro e w4 ⟨rfl, hh2, ho⟩
              rw [hE]
              have bel2 := ho.below bel1 hBw bel1.size
              go_wp2_with fail
              refine (works_any _).mono ?_; rintro e wx ⟨rfl, hb⟩
              go_wp2_with fail
              go_ret
              exact ⟨rfl, below_after bel2 hb⟩
end Go.Proofs.Ytkhjfknmjbffdaa
