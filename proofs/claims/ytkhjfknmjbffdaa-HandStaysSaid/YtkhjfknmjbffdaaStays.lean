/-
  The walk of HandStays: what is gone stays gone, what is validated, confirmed or sure stays so: it answers true whatever the calls, and turns nothing that was there.
-/
import Derived.Test.YtkhjfknmjbffdaaWorks
namespace Go.Proofs.Ytkhjfknmjbffdaa
open Go.RowKit Go.Sort
set_option linter.unusedVariables false
set_option linter.unusedSimpArgs false

/-- What is so once, and what holds of every handshake behind calls. -/
def Good (S : HS) : Prop := S.ok ∧ (S.c = true → S.v = true ∧ S.s2 = 1)
structure Stays (S S' : HS) : Prop where
  st : ∀ s : Int, 0 ≤ s → s < 3 → (S.st s ≠ 0 → S'.st s ≠ 0) ∧ (S.st s = 2 → S'.st s = 2)
  v : S.v = true → S'.v = true
  c : S.c = true → S'.c = true
  su : S.sure = true → S'.sure = true
theorem st_put (S : HS) (i x s : Int) (s0 : 0 ≤ s) (s3 : s < 3) (i0 : 0 ≤ i) (i3 : i < 3) : (S.put i x).st s = if s = i then x else S.st s := by
  obtain rfl | rfl | rfl : s = 0 ∨ s = 1 ∨ s = 2 := by omega
  all_goals
    obtain rfl | rfl | rfl : i = 0 ∨ i = 1 ∨ i = 2 := by omega
    all_goals simp [HS.put, HS.st]
theorem stays_refl (S : HS) : Stays S S := ⟨fun s _ _ => ⟨id, id⟩, id, id, id⟩
theorem stays_put {S : HS} {i x : Int} (i0 : 0 ≤ i) (i3 : i < 3) (h : (S.st i = 0 ∧ x = 1) ∨ (S.st i = 1 ∧ x = 2)) : Stays S (S.put i x) := by
  refine ⟨fun s s0 s3 => ?_, id, id, id⟩
  rw [st_put S i x s s0 s3 i0 i3]
  by_cases hs : s = i
  · subst hs; rw [if_pos rfl]; omega
  · rw [if_neg hs]; exact ⟨id, id⟩
theorem needs_one {S : HS} {s : Int} (h : S.needs s = 0) : S.st s = 1 := by
  have hr := needs_range h
  unfold HS.needs at h
  rw [if_pos hr] at h
  by_cases h1 : S.st s = 1
  · exact h1
  · rw [if_neg h1] at h; omega
theorem stays_call {S : HS} (hg : Good S) (k p : Int) (p0 : 0 ≤ p) (p3 : p < 3) : Stays S (S.callS k p) := by
  unfold HS.callS
  split
  · unfold HS.keysS; split
    · exact stays_put p0 p3 (Or.inl ⟨by omega, rfl⟩)
    · exact stays_refl S
  split
  · unfold HS.discS; split
    · exact stays_put p0 p3 (Or.inr ⟨needs_one (by omega), rfl⟩)
    · exact stays_refl S
  split
  · exact ⟨fun s _ _ => ⟨id, id⟩, fun _ => rfl, id, id⟩
  split
  · unfold HS.confS; split
    · exact ⟨fun s _ _ => ⟨id, id⟩, fun _ => rfl, fun _ => rfl, fun _ => by simp [HS.sure]⟩
    · exact stays_refl S
  · unfold HS.ansS; split
    · exact ⟨fun s _ _ => ⟨id, id⟩, id, id, fun _ => by simp [HS.sure]⟩
    · exact stays_refl S
theorem good_call {S : HS} (hg : Good S) (k p : Int) (p0 : 0 ≤ p) (p3 : p < 3) : Good (S.callS k p) := by
  refine ⟨ok_call hg.1 k p, ?_⟩
  have h2 := hg.2
  unfold HS.callS
  split
  · unfold HS.keysS; split
    · rename_i hst
      intro hc
      obtain ⟨hv, hs⟩ := h2 hc
      refine ⟨hv, ?_⟩
      have := st_put S p 1 2 (by omega) (by omega) p0 p3
      have e : (S.put p 1).s2 = (S.put p 1).st 2 := rfl
      rw [e, this]; split
      · rfl
      · exact hs
    · exact h2
  split
  · unfold HS.discS; split
    · rename_i hst
      intro hc
      obtain ⟨hv, hs⟩ := h2 hc
      refine ⟨hv, ?_⟩
      have := st_put S p 2 2 (by omega) (by omega) p0 p3
      have e : (S.put p 2).s2 = (S.put p 2).st 2 := rfl
      rw [e, this, if_neg (fun h => hst.1 h.symm)]
      exact hs
    · exact h2
  split
  · intro hc; exact ⟨rfl, (h2 hc).2⟩
  split
  · unfold HS.confS; split
    · rename_i hn
      intro _; exact ⟨rfl, needs_one hn⟩
    · exact h2
  · unfold HS.ansS; split <;> exact h2
theorem good_start (sv : Bool) : Good (HS.start sv) := ⟨ok_start sv, fun h => by simp [HS.start] at h⟩
theorem good_play (sv : Bool) (z : Nat → Nat → Int) (n : Nat) : Good (playN (HS.start sv) z n) := by
  induction n with
  | zero => exact good_start sv
  | succ n ih => exact good_call ih _ _ (Int.emod_nonneg _ (by omega)) (Int.emod_lt_of_pos _ (by omega))
theorem Stays.has {S S' : HS} (h : Stays S S') (s : Int) (s0 : 0 ≤ s) (s3 : s < 3) : S.has s = true → S'.has s = true := by
  unfold HS.has; intro hh
  simp only [Bool.and_eq_true, decide_eq_true_eq] at hh ⊢
  exact ⟨hh.1, (h.st s s0 s3).1 hh.2⟩
theorem Stays.gone {S S' : HS} (h : Stays S S') (hok : S.ok) (s : Int) (s0 : 0 ≤ s) (s3 : s < 3) : S.has s = true → S.lives s = false → S'.lives s = false := by
  unfold HS.has HS.lives; intro hh hl
  simp only [Bool.and_eq_true, decide_eq_true_eq] at hh
  have hd : decide (0 ≤ s ∧ s < 3) = true := by simp; omega
  rw [hd, Bool.true_and, decide_eq_false_iff_not] at hl
  have := st_in hok s
  have := (h.st s s0 s3).2 (by omega)
  rw [hd, Bool.true_and, decide_eq_false_iff_not]; omega
theorem lives_has (S : HS) (s : Int) : S.lives s = true → S.has s = true := by
  unfold HS.has HS.lives; intro hh
  simp only [Bool.and_eq_true, decide_eq_true_eq] at hh ⊢
  exact ⟨hh.1, by omega⟩

def TRel (w : World) (b len : Nat) (S : HS) (z : Nat → Nat → Int) (i : Value) (wr : World) : Prop :=
  ∃ k : Nat, i = .int .i64 (k : Int) ∧ k ≤ len ∧ k ≤ 60 ∧ IsHand wr b (playN S z k) ∧ Below w.heap.size w wr
def URel (w : World) (b d : Nat) (S S' : HS) (i : Value) (wr : World) : Prop :=
  ∃ s : Int, i = .int .i64 s ∧ 0 ≤ s ∧ s ≤ 3 ∧ IsHand wr b S' ∧ IsHand wr d S ∧ Below w.heap.size w wr

set_option maxRecDepth 100000 in
set_option maxHeartbeats 8000000 in
theorem handStays_any (sv : Bool) (a : Option Addr) (len cap : Nat) (z : Nat → Nat → Int) (w : World) (hz : IsRows w a len 2 z) :
    Calls Try.prog 7 #[.bool sv, .slice a len cap] w fun e w' => e = .returned (.bool true) ∧ Below w.heap.size w w' := by
  have hlen := hz.1
  unfold maxLen at hlen
  go_enter Try.func7, Try.ntmps7
  go_wp2_with fail
  refine (works_any w).mono ?_; rintro e w0 ⟨rfl, bel⟩
  go_wp2_with fail
  refine (new_any sv w0).mono ?_; rintro e w1 ⟨rfl, hh, hb⟩
  obtain ⟨b, hbb⟩ : ∃ b, b = w0.heap.size := ⟨_, rfl⟩
  rw [← hbb] at hh ⊢
  have hB : w.heap.size ≤ b := by have := bel.size; omega
  clear hbb
  replace bel := below_after bel hb
  clear hb
  go_wp2_with fail
  go_loopw [6] (TRel w b len (HS.start sv) z) (fun i _ => (len - (intOf i).toNat))
  case atStart => exact ⟨0, rfl, by omega, by omega, hh, bel⟩
  case round =>
    clear hh bel
    obtain ⟨k, rfl, hk, hk60, hh, bel⟩ := hrel
    by_cases hlt : k < len ∧ k < 60
    · obtain ⟨hlt, hlt60⟩ := hlt
      have hgood := good_play sv z k
      obtain ⟨S, hSS⟩ : ∃ S, S = playN (HS.start sv) z k := ⟨_, rfl⟩
      have hS1 : playN (HS.start sv) z (k + 1) = S.callS (z k 0 % 6) (z k 1 % 3) := by rw [hSS]; rfl
      rw [← hSS] at hgood hh
      have hok := hgood.1
      obtain ⟨q, hq⟩ : ∃ q, z k 0 % 6 = q := ⟨_, rfl⟩
      obtain ⟨p, hpp⟩ : ∃ p, z k 1 % 3 = p := ⟨_, rfl⟩
      rw [hq, hpp] at hS1
      have p0 : 0 ≤ p := by omega
      have p3 : p < 3 := by omega
      obtain ⟨S', hS'⟩ : ∃ S', S' = S.callS q p := ⟨_, rfl⟩
      have hst := stays_call hgood q p p0 p3
      have hgood' := good_call hgood q p p0 p3
      rw [← hS'] at hst hgood' hS1
      have hok' := hgood'.1
      have H := hide (And.intro hS1 (And.intro hS' (And.intro hq hpp)))
      have HST := hide (And.intro hst hgood'.2)
      clear hSS hS1 hS' hq hpp hst hgood hgood'
      go_wp2_with fail
      refine (copy_any b S _ hh hok).mono ?_; rintro e w2 ⟨rfl, hd, hb⟩
      obtain ⟨d, hdd⟩ : ∃ d, d = wr.heap.size := ⟨_, rfl⟩
      rw [← hdd] at hd ⊢
      have hD : w.heap.size ≤ d := by have := bel.size; omega
      have hne : b ≠ d := by have := hh.lt; omega
      clear hdd
      replace hh := hh.keep hb
      replace bel := below_after bel hb
      clear hb
      obtain ⟨bz, off, ha, hbz, c0, c1, ⟨lo0, hi0⟩, ⟨lo1, hi1⟩⟩ := hz.row bel hlt
      subst ha
      generalize z k 0 = t at *
      generalize z k 1 = s at *
      go_wp2_with fail
      refine (call_any b S t s q p _ hh hok lo0 hi0 lo1 hi1 H.out.2.2.1 H.out.2.2.2).mono ?_; rintro e w3 ⟨rfl, hh1, ho⟩
      rw [← H.out.2.1] at hh1
      have hd1 := hd.away ho hne.symm
      have bel1 := ho.below bel hB bel.size
      clear hh hd ho c0 c1 bel lo0 hi0 lo1 hi1
      go_wp2_with fail
      go_loopw [8] (URel w b d S S') (fun i _ => (3 - intOf i).toNat)
      case atStart => exact ⟨0, rfl, by omega, by omega, hh1, hd1, bel1⟩
      case round =>
        clear hh1 hd1 bel1
        obtain ⟨x, rfl, x0, x3, hh1, hd1, bel1⟩ := hrel
        by_cases hx : x < 3
        · have g1 := HST.out.1.has x x0 hx
          have g2 := HST.out.1.gone hok x x0 hx
          have g3 := lives_has S' x
          obtain ⟨A, hA⟩ : ∃ A, S.has x = A := ⟨_, rfl⟩
          obtain ⟨B, hBe⟩ : ∃ B, S'.has x = B := ⟨_, rfl⟩
          obtain ⟨C, hC⟩ : ∃ C, S.lives x = C := ⟨_, rfl⟩
          obtain ⟨D, hD'⟩ : ∃ D, S'.lives x = D := ⟨_, rfl⟩
          rw [hA, hBe] at g1
          rw [hA, hC, hD'] at g2
          rw [hD', hBe] at g3
          have HN := hide (And.intro hA (And.intro hBe (And.intro hC hD')))
          clear hA hBe hC hD'
          have cA := hide (fun W (h : IsHand W d S) => (has_any d S x W h hok))
          have cB := hide (fun W (h : IsHand W b S') => (has_any b S' x W h hok'))
          have cC := hide (fun W (h : IsHand W d S) => (lives_any d S x W h hok))
          have cD := hide (fun W (h : IsHand W b S') => (lives_any b S' x W h hok'))
          rw [HN.out.1] at cA
          rw [HN.out.2.1] at cB
          rw [HN.out.2.2.1] at cC
          rw [HN.out.2.2.2] at cD
          have hfin : (A = true → B = true) ∧ (A = true → C = false → D = false) ∧ (D = true → B = true) := ⟨g1, g2, g3⟩
          clear g1 g2 g3
          cases A
          · cases B
            · cases C
              · cases D
                · clear hfin
                  go_wp2_with fail
                  refine (cA.out _ hd1).mono ?_; rintro e w' ⟨rfl, rfl⟩
                  go_wp2_with fail
                  refine (cA.out _ hd1).mono ?_; rintro e w' ⟨rfl, rfl⟩
                  go_wp2_with fail
                  refine (cD.out _ hh1).mono ?_; rintro e w' ⟨rfl, rfl⟩
                  go_wp2_with fail
                  go_roundw
                  case rel => exact ⟨x + 1, rfl, by omega, by omega, hh1, hd1, bel1⟩
                  case measure => simp [intOf]; omega
                · exfalso; simp at hfin
              · cases D
                · clear hfin
                  go_wp2_with fail
                  refine (cA.out _ hd1).mono ?_; rintro e w' ⟨rfl, rfl⟩
                  go_wp2_with fail
                  refine (cA.out _ hd1).mono ?_; rintro e w' ⟨rfl, rfl⟩
                  go_wp2_with fail
                  refine (cD.out _ hh1).mono ?_; rintro e w' ⟨rfl, rfl⟩
                  go_wp2_with fail
                  go_roundw
                  case rel => exact ⟨x + 1, rfl, by omega, by omega, hh1, hd1, bel1⟩
                  case measure => simp [intOf]; omega
                · exfalso; simp at hfin
            · cases C
              · cases D
                · clear hfin
                  go_wp2_with fail
                  refine (cA.out _ hd1).mono ?_; rintro e w' ⟨rfl, rfl⟩
                  go_wp2_with fail
                  refine (cA.out _ hd1).mono ?_; rintro e w' ⟨rfl, rfl⟩
                  go_wp2_with fail
                  refine (cD.out _ hh1).mono ?_; rintro e w' ⟨rfl, rfl⟩
                  go_wp2_with fail
                  go_roundw
                  case rel => exact ⟨x + 1, rfl, by omega, by omega, hh1, hd1, bel1⟩
                  case measure => simp [intOf]; omega
                · clear hfin
                  go_wp2_with fail
                  refine (cA.out _ hd1).mono ?_; rintro e w' ⟨rfl, rfl⟩
                  go_wp2_with fail
                  refine (cA.out _ hd1).mono ?_; rintro e w' ⟨rfl, rfl⟩
                  go_wp2_with fail
                  refine (cD.out _ hh1).mono ?_; rintro e w' ⟨rfl, rfl⟩
                  go_wp2_with fail
                  refine (cB.out _ hh1).mono ?_; rintro e w' ⟨rfl, rfl⟩
                  go_wp2_with fail
                  go_roundw
                  case rel => exact ⟨x + 1, rfl, by omega, by omega, hh1, hd1, bel1⟩
                  case measure => simp [intOf]; omega
              · cases D
                · clear hfin
                  go_wp2_with fail
                  refine (cA.out _ hd1).mono ?_; rintro e w' ⟨rfl, rfl⟩
                  go_wp2_with fail
                  refine (cA.out _ hd1).mono ?_; rintro e w' ⟨rfl, rfl⟩
                  go_wp2_with fail
                  refine (cD.out _ hh1).mono ?_; rintro e w' ⟨rfl, rfl⟩
                  go_wp2_with fail
                  go_roundw
                  case rel => exact ⟨x + 1, rfl, by omega, by omega, hh1, hd1, bel1⟩
                  case measure => simp [intOf]; omega
                · clear hfin
                  go_wp2_with fail
                  refine (cA.out _ hd1).mono ?_; rintro e w' ⟨rfl, rfl⟩
                  go_wp2_with fail
                  refine (cA.out _ hd1).mono ?_; rintro e w' ⟨rfl, rfl⟩
                  go_wp2_with fail
                  refine (cD.out _ hh1).mono ?_; rintro e w' ⟨rfl, rfl⟩
                  go_wp2_with fail
                  refine (cB.out _ hh1).mono ?_; rintro e w' ⟨rfl, rfl⟩
                  go_wp2_with fail
                  go_roundw
                  case rel => exact ⟨x + 1, rfl, by omega, by omega, hh1, hd1, bel1⟩
                  case measure => simp [intOf]; omega
          · cases B
            · cases C
              · cases D
                · exfalso; simp at hfin
                · exfalso; simp at hfin
              · cases D
                · exfalso; simp at hfin
                · exfalso; simp at hfin
            · cases C
              · cases D
                · clear hfin
                  go_wp2_with fail
                  refine (cA.out _ hd1).mono ?_; rintro e w' ⟨rfl, rfl⟩
                  go_wp2_with fail
                  refine (cB.out _ hh1).mono ?_; rintro e w' ⟨rfl, rfl⟩
                  go_wp2_with fail
                  refine (cA.out _ hd1).mono ?_; rintro e w' ⟨rfl, rfl⟩
                  go_wp2_with fail
                  refine (cC.out _ hd1).mono ?_; rintro e w' ⟨rfl, rfl⟩
                  go_wp2_with fail
                  refine (cD.out _ hh1).mono ?_; rintro e w' ⟨rfl, rfl⟩
                  go_wp2_with fail
                  refine (cD.out _ hh1).mono ?_; rintro e w' ⟨rfl, rfl⟩
                  go_wp2_with fail
                  go_roundw
                  case rel => exact ⟨x + 1, rfl, by omega, by omega, hh1, hd1, bel1⟩
                  case measure => simp [intOf]; omega
                · exfalso; simp at hfin
              · cases D
                · clear hfin
                  go_wp2_with fail
                  refine (cA.out _ hd1).mono ?_; rintro e w' ⟨rfl, rfl⟩
                  go_wp2_with fail
                  refine (cB.out _ hh1).mono ?_; rintro e w' ⟨rfl, rfl⟩
                  go_wp2_with fail
                  refine (cA.out _ hd1).mono ?_; rintro e w' ⟨rfl, rfl⟩
                  go_wp2_with fail
                  refine (cC.out _ hd1).mono ?_; rintro e w' ⟨rfl, rfl⟩
                  go_wp2_with fail
                  refine (cD.out _ hh1).mono ?_; rintro e w' ⟨rfl, rfl⟩
                  go_wp2_with fail
                  go_roundw
                  case rel => exact ⟨x + 1, rfl, by omega, by omega, hh1, hd1, bel1⟩
                  case measure => simp [intOf]; omega
                · clear hfin
                  go_wp2_with fail
                  refine (cA.out _ hd1).mono ?_; rintro e w' ⟨rfl, rfl⟩
                  go_wp2_with fail
                  refine (cB.out _ hh1).mono ?_; rintro e w' ⟨rfl, rfl⟩
                  go_wp2_with fail
                  refine (cA.out _ hd1).mono ?_; rintro e w' ⟨rfl, rfl⟩
                  go_wp2_with fail
                  refine (cC.out _ hd1).mono ?_; rintro e w' ⟨rfl, rfl⟩
                  go_wp2_with fail
                  refine (cD.out _ hh1).mono ?_; rintro e w' ⟨rfl, rfl⟩
                  go_wp2_with fail
                  refine (cB.out _ hh1).mono ?_; rintro e w' ⟨rfl, rfl⟩
                  go_wp2_with fail
                  go_roundw
                  case rel => exact ⟨x + 1, rfl, by omega, by omega, hh1, hd1, bel1⟩
                  case measure => simp [intOf]; omega
        · obtain rfl : x = 3 := by omega
          have hfin : (S.v = true → S'.v = true) ∧ (S.c = true → S'.c = true) ∧ (S.sure = true → S'.sure = true) ∧ (S'.c = true → S'.v = true) ∧ (S'.c = true → S'.lives 2 = true) ∧ (S'.c = true → S'.sure = true) :=
            ⟨HST.out.1.v, HST.out.1.c, HST.out.1.su, fun h => (HST.out.2 h).1, fun h => by
              unfold HS.lives
              have e : S'.st 2 = S'.s2 := rfl
              rw [e, (HST.out.2 h).2]; rfl, fun h => by simp [HS.sure, h]⟩
          obtain ⟨A, hA⟩ : ∃ A, S.v = A := ⟨_, rfl⟩
          obtain ⟨B, hBe⟩ : ∃ B, S'.v = B := ⟨_, rfl⟩
          obtain ⟨C, hC⟩ : ∃ C, S.c = C := ⟨_, rfl⟩
          obtain ⟨D, hD'⟩ : ∃ D, S'.c = D := ⟨_, rfl⟩
          obtain ⟨E, hE⟩ : ∃ E, S.sure = E := ⟨_, rfl⟩
          obtain ⟨F, hF⟩ : ∃ F, S'.sure = F := ⟨_, rfl⟩
          obtain ⟨G, hG⟩ : ∃ G, S'.lives 2 = G := ⟨_, rfl⟩
          rw [hA, hBe, hC, hD', hE, hF, hG] at hfin
          have cA := fun W (h : IsHand W d S) => (valid_any d S W h hok)
          have cB := fun W (h : IsHand W b S') => (valid_any b S' W h hok')
          have cC := fun W (h : IsHand W d S) => (confirmed_any d S W h hok)
          have cD := fun W (h : IsHand W b S') => (confirmed_any b S' W h hok')
          have cE := fun W (h : IsHand W d S) => (sure_any d S W h hok)
          have cF := fun W (h : IsHand W b S') => (sure_any b S' W h hok')
          have cG := fun W (h : IsHand W b S') => (lives_any b S' 2 W h hok')
          rw [hA] at cA
          rw [hBe] at cB
          rw [hC] at cC
          rw [hD'] at cD
          rw [hE] at cE
          rw [hF] at cF
          rw [hG] at cG
          clear hA hBe hC hD' hE hF hG
          replace cA := hide cA
          replace cB := hide cB
          replace cC := hide cC
          replace cD := hide cD
          replace cE := hide cE
          replace cF := hide cF
          replace cG := hide cG
          cases A
          · cases B
            · cases C
              · cases D
                · cases E
                  · cases F
                    · cases G
                      · clear hfin
                        go_wp2_with fail
                        refine (cA.out _ hd1).mono ?_; rintro e w' ⟨rfl, rfl⟩
                        go_wp2_with fail
                        refine (cC.out _ hd1).mono ?_; rintro e w' ⟨rfl, rfl⟩
                        go_wp2_with fail
                        refine (cE.out _ hd1).mono ?_; rintro e w' ⟨rfl, rfl⟩
                        go_wp2_with fail
                        refine (cD.out _ hh1).mono ?_; rintro e w' ⟨rfl, rfl⟩
                        go_wp2_with fail
                        go_roundw
                        case rel => exact ⟨k + 1, rfl, by omega, by omega, by rw [H.out.1]; exact hh1, bel1⟩
                        case measure => simp [intOf]; omega
                      · clear hfin
                        go_wp2_with fail
                        refine (cA.out _ hd1).mono ?_; rintro e w' ⟨rfl, rfl⟩
                        go_wp2_with fail
                        refine (cC.out _ hd1).mono ?_; rintro e w' ⟨rfl, rfl⟩
                        go_wp2_with fail
                        refine (cE.out _ hd1).mono ?_; rintro e w' ⟨rfl, rfl⟩
                        go_wp2_with fail
                        refine (cD.out _ hh1).mono ?_; rintro e w' ⟨rfl, rfl⟩
                        go_wp2_with fail
                        go_roundw
                        case rel => exact ⟨k + 1, rfl, by omega, by omega, by rw [H.out.1]; exact hh1, bel1⟩
                        case measure => simp [intOf]; omega
                    · cases G
                      · clear hfin
                        go_wp2_with fail
                        refine (cA.out _ hd1).mono ?_; rintro e w' ⟨rfl, rfl⟩
                        go_wp2_with fail
                        refine (cC.out _ hd1).mono ?_; rintro e w' ⟨rfl, rfl⟩
                        go_wp2_with fail
                        refine (cE.out _ hd1).mono ?_; rintro e w' ⟨rfl, rfl⟩
                        go_wp2_with fail
                        refine (cD.out _ hh1).mono ?_; rintro e w' ⟨rfl, rfl⟩
                        go_wp2_with fail
                        go_roundw
                        case rel => exact ⟨k + 1, rfl, by omega, by omega, by rw [H.out.1]; exact hh1, bel1⟩
                        case measure => simp [intOf]; omega
                      · clear hfin
                        go_wp2_with fail
                        refine (cA.out _ hd1).mono ?_; rintro e w' ⟨rfl, rfl⟩
                        go_wp2_with fail
                        refine (cC.out _ hd1).mono ?_; rintro e w' ⟨rfl, rfl⟩
                        go_wp2_with fail
                        refine (cE.out _ hd1).mono ?_; rintro e w' ⟨rfl, rfl⟩
                        go_wp2_with fail
                        refine (cD.out _ hh1).mono ?_; rintro e w' ⟨rfl, rfl⟩
                        go_wp2_with fail
                        go_roundw
                        case rel => exact ⟨k + 1, rfl, by omega, by omega, by rw [H.out.1]; exact hh1, bel1⟩
                        case measure => simp [intOf]; omega
                  · cases F
                    · cases G
                      · exfalso; simp at hfin
                      · exfalso; simp at hfin
                    · cases G
                      · clear hfin
                        go_wp2_with fail
                        refine (cA.out _ hd1).mono ?_; rintro e w' ⟨rfl, rfl⟩
                        go_wp2_with fail
                        refine (cC.out _ hd1).mono ?_; rintro e w' ⟨rfl, rfl⟩
                        go_wp2_with fail
                        refine (cE.out _ hd1).mono ?_; rintro e w' ⟨rfl, rfl⟩
                        go_wp2_with fail
                        refine (cF.out _ hh1).mono ?_; rintro e w' ⟨rfl, rfl⟩
                        go_wp2_with fail
                        refine (cD.out _ hh1).mono ?_; rintro e w' ⟨rfl, rfl⟩
                        go_wp2_with fail
                        go_roundw
                        case rel => exact ⟨k + 1, rfl, by omega, by omega, by rw [H.out.1]; exact hh1, bel1⟩
                        case measure => simp [intOf]; omega
                      · clear hfin
                        go_wp2_with fail
                        refine (cA.out _ hd1).mono ?_; rintro e w' ⟨rfl, rfl⟩
                        go_wp2_with fail
                        refine (cC.out _ hd1).mono ?_; rintro e w' ⟨rfl, rfl⟩
                        go_wp2_with fail
                        refine (cE.out _ hd1).mono ?_; rintro e w' ⟨rfl, rfl⟩
                        go_wp2_with fail
                        refine (cF.out _ hh1).mono ?_; rintro e w' ⟨rfl, rfl⟩
                        go_wp2_with fail
                        refine (cD.out _ hh1).mono ?_; rintro e w' ⟨rfl, rfl⟩
                        go_wp2_with fail
                        go_roundw
                        case rel => exact ⟨k + 1, rfl, by omega, by omega, by rw [H.out.1]; exact hh1, bel1⟩
                        case measure => simp [intOf]; omega
                · cases E
                  · cases F
                    · cases G
                      · exfalso; simp at hfin
                      · exfalso; simp at hfin
                    · cases G
                      · exfalso; simp at hfin
                      · exfalso; simp at hfin
                  · cases F
                    · cases G
                      · exfalso; simp at hfin
                      · exfalso; simp at hfin
                    · cases G
                      · exfalso; simp at hfin
                      · exfalso; simp at hfin
              · cases D
                · cases E
                  · cases F
                    · cases G
                      · exfalso; simp at hfin
                      · exfalso; simp at hfin
                    · cases G
                      · exfalso; simp at hfin
                      · exfalso; simp at hfin
                  · cases F
                    · cases G
                      · exfalso; simp at hfin
                      · exfalso; simp at hfin
                    · cases G
                      · exfalso; simp at hfin
                      · exfalso; simp at hfin
                · cases E
                  · cases F
                    · cases G
                      · exfalso; simp at hfin
                      · exfalso; simp at hfin
                    · cases G
                      · exfalso; simp at hfin
                      · exfalso; simp at hfin
                  · cases F
                    · cases G
                      · exfalso; simp at hfin
                      · exfalso; simp at hfin
                    · cases G
                      · exfalso; simp at hfin
                      · exfalso; simp at hfin
            · cases C
              · cases D
                · cases E
                  · cases F
                    · cases G
                      · clear hfin
                        go_wp2_with fail
                        refine (cA.out _ hd1).mono ?_; rintro e w' ⟨rfl, rfl⟩
                        go_wp2_with fail
                        refine (cC.out _ hd1).mono ?_; rintro e w' ⟨rfl, rfl⟩
                        go_wp2_with fail
                        refine (cE.out _ hd1).mono ?_; rintro e w' ⟨rfl, rfl⟩
                        go_wp2_with fail
                        refine (cD.out _ hh1).mono ?_; rintro e w' ⟨rfl, rfl⟩
                        go_wp2_with fail
                        go_roundw
                        case rel => exact ⟨k + 1, rfl, by omega, by omega, by rw [H.out.1]; exact hh1, bel1⟩
                        case measure => simp [intOf]; omega
                      · clear hfin
                        go_wp2_with fail
                        refine (cA.out _ hd1).mono ?_; rintro e w' ⟨rfl, rfl⟩
                        go_wp2_with fail
                        refine (cC.out _ hd1).mono ?_; rintro e w' ⟨rfl, rfl⟩
                        go_wp2_with fail
                        refine (cE.out _ hd1).mono ?_; rintro e w' ⟨rfl, rfl⟩
                        go_wp2_with fail
                        refine (cD.out _ hh1).mono ?_; rintro e w' ⟨rfl, rfl⟩
                        go_wp2_with fail
                        go_roundw
                        case rel => exact ⟨k + 1, rfl, by omega, by omega, by rw [H.out.1]; exact hh1, bel1⟩
                        case measure => simp [intOf]; omega
                    · cases G
                      · clear hfin
                        go_wp2_with fail
                        refine (cA.out _ hd1).mono ?_; rintro e w' ⟨rfl, rfl⟩
                        go_wp2_with fail
                        refine (cC.out _ hd1).mono ?_; rintro e w' ⟨rfl, rfl⟩
                        go_wp2_with fail
                        refine (cE.out _ hd1).mono ?_; rintro e w' ⟨rfl, rfl⟩
                        go_wp2_with fail
                        refine (cD.out _ hh1).mono ?_; rintro e w' ⟨rfl, rfl⟩
                        go_wp2_with fail
                        go_roundw
                        case rel => exact ⟨k + 1, rfl, by omega, by omega, by rw [H.out.1]; exact hh1, bel1⟩
                        case measure => simp [intOf]; omega
                      · clear hfin
                        go_wp2_with fail
                        refine (cA.out _ hd1).mono ?_; rintro e w' ⟨rfl, rfl⟩
                        go_wp2_with fail
                        refine (cC.out _ hd1).mono ?_; rintro e w' ⟨rfl, rfl⟩
                        go_wp2_with fail
                        refine (cE.out _ hd1).mono ?_; rintro e w' ⟨rfl, rfl⟩
                        go_wp2_with fail
                        refine (cD.out _ hh1).mono ?_; rintro e w' ⟨rfl, rfl⟩
                        go_wp2_with fail
                        go_roundw
                        case rel => exact ⟨k + 1, rfl, by omega, by omega, by rw [H.out.1]; exact hh1, bel1⟩
                        case measure => simp [intOf]; omega
                  · cases F
                    · cases G
                      · exfalso; simp at hfin
                      · exfalso; simp at hfin
                    · cases G
                      · clear hfin
                        go_wp2_with fail
                        refine (cA.out _ hd1).mono ?_; rintro e w' ⟨rfl, rfl⟩
                        go_wp2_with fail
                        refine (cC.out _ hd1).mono ?_; rintro e w' ⟨rfl, rfl⟩
                        go_wp2_with fail
                        refine (cE.out _ hd1).mono ?_; rintro e w' ⟨rfl, rfl⟩
                        go_wp2_with fail
                        refine (cF.out _ hh1).mono ?_; rintro e w' ⟨rfl, rfl⟩
                        go_wp2_with fail
                        refine (cD.out _ hh1).mono ?_; rintro e w' ⟨rfl, rfl⟩
                        go_wp2_with fail
                        go_roundw
                        case rel => exact ⟨k + 1, rfl, by omega, by omega, by rw [H.out.1]; exact hh1, bel1⟩
                        case measure => simp [intOf]; omega
                      · clear hfin
                        go_wp2_with fail
                        refine (cA.out _ hd1).mono ?_; rintro e w' ⟨rfl, rfl⟩
                        go_wp2_with fail
                        refine (cC.out _ hd1).mono ?_; rintro e w' ⟨rfl, rfl⟩
                        go_wp2_with fail
                        refine (cE.out _ hd1).mono ?_; rintro e w' ⟨rfl, rfl⟩
                        go_wp2_with fail
                        refine (cF.out _ hh1).mono ?_; rintro e w' ⟨rfl, rfl⟩
                        go_wp2_with fail
                        refine (cD.out _ hh1).mono ?_; rintro e w' ⟨rfl, rfl⟩
                        go_wp2_with fail
                        go_roundw
                        case rel => exact ⟨k + 1, rfl, by omega, by omega, by rw [H.out.1]; exact hh1, bel1⟩
                        case measure => simp [intOf]; omega
                · cases E
                  · cases F
                    · cases G
                      · exfalso; simp at hfin
                      · exfalso; simp at hfin
                    · cases G
                      · exfalso; simp at hfin
                      · clear hfin
                        go_wp2_with fail
                        refine (cA.out _ hd1).mono ?_; rintro e w' ⟨rfl, rfl⟩
                        go_wp2_with fail
                        refine (cC.out _ hd1).mono ?_; rintro e w' ⟨rfl, rfl⟩
                        go_wp2_with fail
                        refine (cE.out _ hd1).mono ?_; rintro e w' ⟨rfl, rfl⟩
                        go_wp2_with fail
                        refine (cD.out _ hh1).mono ?_; rintro e w' ⟨rfl, rfl⟩
                        go_wp2_with fail
                        refine (cB.out _ hh1).mono ?_; rintro e w' ⟨rfl, rfl⟩
                        go_wp2_with fail
                        refine (cF.out _ hh1).mono ?_; rintro e w' ⟨rfl, rfl⟩
                        go_wp2_with fail
                        refine (cG.out _ hh1).mono ?_; rintro e w' ⟨rfl, rfl⟩
                        go_wp2_with fail
                        go_roundw
                        case rel => exact ⟨k + 1, rfl, by omega, by omega, by rw [H.out.1]; exact hh1, bel1⟩
                        case measure => simp [intOf]; omega
                  · cases F
                    · cases G
                      · exfalso; simp at hfin
                      · exfalso; simp at hfin
                    · cases G
                      · exfalso; simp at hfin
                      · clear hfin
                        go_wp2_with fail
                        refine (cA.out _ hd1).mono ?_; rintro e w' ⟨rfl, rfl⟩
                        go_wp2_with fail
                        refine (cC.out _ hd1).mono ?_; rintro e w' ⟨rfl, rfl⟩
                        go_wp2_with fail
                        refine (cE.out _ hd1).mono ?_; rintro e w' ⟨rfl, rfl⟩
                        go_wp2_with fail
                        refine (cF.out _ hh1).mono ?_; rintro e w' ⟨rfl, rfl⟩
                        go_wp2_with fail
                        refine (cD.out _ hh1).mono ?_; rintro e w' ⟨rfl, rfl⟩
                        go_wp2_with fail
                        refine (cB.out _ hh1).mono ?_; rintro e w' ⟨rfl, rfl⟩
                        go_wp2_with fail
                        refine (cF.out _ hh1).mono ?_; rintro e w' ⟨rfl, rfl⟩
                        go_wp2_with fail
                        refine (cG.out _ hh1).mono ?_; rintro e w' ⟨rfl, rfl⟩
                        go_wp2_with fail
                        go_roundw
                        case rel => exact ⟨k + 1, rfl, by omega, by omega, by rw [H.out.1]; exact hh1, bel1⟩
                        case measure => simp [intOf]; omega
              · cases D
                · cases E
                  · cases F
                    · cases G
                      · exfalso; simp at hfin
                      · exfalso; simp at hfin
                    · cases G
                      · exfalso; simp at hfin
                      · exfalso; simp at hfin
                  · cases F
                    · cases G
                      · exfalso; simp at hfin
                      · exfalso; simp at hfin
                    · cases G
                      · exfalso; simp at hfin
                      · exfalso; simp at hfin
                · cases E
                  · cases F
                    · cases G
                      · exfalso; simp at hfin
                      · exfalso; simp at hfin
                    · cases G
                      · exfalso; simp at hfin
                      · clear hfin
                        go_wp2_with fail
                        refine (cA.out _ hd1).mono ?_; rintro e w' ⟨rfl, rfl⟩
                        go_wp2_with fail
                        refine (cC.out _ hd1).mono ?_; rintro e w' ⟨rfl, rfl⟩
                        go_wp2_with fail
                        refine (cD.out _ hh1).mono ?_; rintro e w' ⟨rfl, rfl⟩
                        go_wp2_with fail
                        refine (cE.out _ hd1).mono ?_; rintro e w' ⟨rfl, rfl⟩
                        go_wp2_with fail
                        refine (cD.out _ hh1).mono ?_; rintro e w' ⟨rfl, rfl⟩
                        go_wp2_with fail
                        refine (cB.out _ hh1).mono ?_; rintro e w' ⟨rfl, rfl⟩
                        go_wp2_with fail
                        refine (cF.out _ hh1).mono ?_; rintro e w' ⟨rfl, rfl⟩
                        go_wp2_with fail
                        refine (cG.out _ hh1).mono ?_; rintro e w' ⟨rfl, rfl⟩
                        go_wp2_with fail
                        go_roundw
                        case rel => exact ⟨k + 1, rfl, by omega, by omega, by rw [H.out.1]; exact hh1, bel1⟩
                        case measure => simp [intOf]; omega
                  · cases F
                    · cases G
                      · exfalso; simp at hfin
                      · exfalso; simp at hfin
                    · cases G
                      · exfalso; simp at hfin
                      · clear hfin
                        go_wp2_with fail
                        refine (cA.out _ hd1).mono ?_; rintro e w' ⟨rfl, rfl⟩
                        go_wp2_with fail
                        refine (cC.out _ hd1).mono ?_; rintro e w' ⟨rfl, rfl⟩
                        go_wp2_with fail
                        refine (cD.out _ hh1).mono ?_; rintro e w' ⟨rfl, rfl⟩
                        go_wp2_with fail
                        refine (cE.out _ hd1).mono ?_; rintro e w' ⟨rfl, rfl⟩
                        go_wp2_with fail
                        refine (cF.out _ hh1).mono ?_; rintro e w' ⟨rfl, rfl⟩
                        go_wp2_with fail
                        refine (cD.out _ hh1).mono ?_; rintro e w' ⟨rfl, rfl⟩
                        go_wp2_with fail
                        refine (cB.out _ hh1).mono ?_; rintro e w' ⟨rfl, rfl⟩
                        go_wp2_with fail
                        refine (cF.out _ hh1).mono ?_; rintro e w' ⟨rfl, rfl⟩
                        go_wp2_with fail
                        refine (cG.out _ hh1).mono ?_; rintro e w' ⟨rfl, rfl⟩
                        go_wp2_with fail
                        go_roundw
                        case rel => exact ⟨k + 1, rfl, by omega, by omega, by rw [H.out.1]; exact hh1, bel1⟩
                        case measure => simp [intOf]; omega
          · cases B
            · cases C
              · cases D
                · cases E
                  · cases F
                    · cases G
                      · exfalso; simp at hfin
                      · exfalso; simp at hfin
                    · cases G
                      · exfalso; simp at hfin
                      · exfalso; simp at hfin
                  · cases F
                    · cases G
                      · exfalso; simp at hfin
                      · exfalso; simp at hfin
                    · cases G
                      · exfalso; simp at hfin
                      · exfalso; simp at hfin
                · cases E
                  · cases F
                    · cases G
                      · exfalso; simp at hfin
                      · exfalso; simp at hfin
                    · cases G
                      · exfalso; simp at hfin
                      · exfalso; simp at hfin
                  · cases F
                    · cases G
                      · exfalso; simp at hfin
                      · exfalso; simp at hfin
                    · cases G
                      · exfalso; simp at hfin
                      · exfalso; simp at hfin
              · cases D
                · cases E
                  · cases F
                    · cases G
                      · exfalso; simp at hfin
                      · exfalso; simp at hfin
                    · cases G
                      · exfalso; simp at hfin
                      · exfalso; simp at hfin
                  · cases F
                    · cases G
                      · exfalso; simp at hfin
                      · exfalso; simp at hfin
                    · cases G
                      · exfalso; simp at hfin
                      · exfalso; simp at hfin
                · cases E
                  · cases F
                    · cases G
                      · exfalso; simp at hfin
                      · exfalso; simp at hfin
                    · cases G
                      · exfalso; simp at hfin
                      · exfalso; simp at hfin
                  · cases F
                    · cases G
                      · exfalso; simp at hfin
                      · exfalso; simp at hfin
                    · cases G
                      · exfalso; simp at hfin
                      · exfalso; simp at hfin
            · cases C
              · cases D
                · cases E
                  · cases F
                    · cases G
                      · clear hfin
                        go_wp2_with fail
                        refine (cA.out _ hd1).mono ?_; rintro e w' ⟨rfl, rfl⟩
                        go_wp2_with fail
                        refine (cB.out _ hh1).mono ?_; rintro e w' ⟨rfl, rfl⟩
                        go_wp2_with fail
                        refine (cC.out _ hd1).mono ?_; rintro e w' ⟨rfl, rfl⟩
                        go_wp2_with fail
                        refine (cE.out _ hd1).mono ?_; rintro e w' ⟨rfl, rfl⟩
                        go_wp2_with fail
                        refine (cD.out _ hh1).mono ?_; rintro e w' ⟨rfl, rfl⟩
                        go_wp2_with fail
                        go_roundw
                        case rel => exact ⟨k + 1, rfl, by omega, by omega, by rw [H.out.1]; exact hh1, bel1⟩
                        case measure => simp [intOf]; omega
                      · clear hfin
                        go_wp2_with fail
                        refine (cA.out _ hd1).mono ?_; rintro e w' ⟨rfl, rfl⟩
                        go_wp2_with fail
                        refine (cB.out _ hh1).mono ?_; rintro e w' ⟨rfl, rfl⟩
                        go_wp2_with fail
                        refine (cC.out _ hd1).mono ?_; rintro e w' ⟨rfl, rfl⟩
                        go_wp2_with fail
                        refine (cE.out _ hd1).mono ?_; rintro e w' ⟨rfl, rfl⟩
                        go_wp2_with fail
                        refine (cD.out _ hh1).mono ?_; rintro e w' ⟨rfl, rfl⟩
                        go_wp2_with fail
                        go_roundw
                        case rel => exact ⟨k + 1, rfl, by omega, by omega, by rw [H.out.1]; exact hh1, bel1⟩
                        case measure => simp [intOf]; omega
                    · cases G
                      · clear hfin
                        go_wp2_with fail
                        refine (cA.out _ hd1).mono ?_; rintro e w' ⟨rfl, rfl⟩
                        go_wp2_with fail
                        refine (cB.out _ hh1).mono ?_; rintro e w' ⟨rfl, rfl⟩
                        go_wp2_with fail
                        refine (cC.out _ hd1).mono ?_; rintro e w' ⟨rfl, rfl⟩
                        go_wp2_with fail
                        refine (cE.out _ hd1).mono ?_; rintro e w' ⟨rfl, rfl⟩
                        go_wp2_with fail
                        refine (cD.out _ hh1).mono ?_; rintro e w' ⟨rfl, rfl⟩
                        go_wp2_with fail
                        go_roundw
                        case rel => exact ⟨k + 1, rfl, by omega, by omega, by rw [H.out.1]; exact hh1, bel1⟩
                        case measure => simp [intOf]; omega
                      · clear hfin
                        go_wp2_with fail
                        refine (cA.out _ hd1).mono ?_; rintro e w' ⟨rfl, rfl⟩
                        go_wp2_with fail
                        refine (cB.out _ hh1).mono ?_; rintro e w' ⟨rfl, rfl⟩
                        go_wp2_with fail
                        refine (cC.out _ hd1).mono ?_; rintro e w' ⟨rfl, rfl⟩
                        go_wp2_with fail
                        refine (cE.out _ hd1).mono ?_; rintro e w' ⟨rfl, rfl⟩
                        go_wp2_with fail
                        refine (cD.out _ hh1).mono ?_; rintro e w' ⟨rfl, rfl⟩
                        go_wp2_with fail
                        go_roundw
                        case rel => exact ⟨k + 1, rfl, by omega, by omega, by rw [H.out.1]; exact hh1, bel1⟩
                        case measure => simp [intOf]; omega
                  · cases F
                    · cases G
                      · exfalso; simp at hfin
                      · exfalso; simp at hfin
                    · cases G
                      · clear hfin
                        go_wp2_with fail
                        refine (cA.out _ hd1).mono ?_; rintro e w' ⟨rfl, rfl⟩
                        go_wp2_with fail
                        refine (cB.out _ hh1).mono ?_; rintro e w' ⟨rfl, rfl⟩
                        go_wp2_with fail
                        refine (cC.out _ hd1).mono ?_; rintro e w' ⟨rfl, rfl⟩
                        go_wp2_with fail
                        refine (cE.out _ hd1).mono ?_; rintro e w' ⟨rfl, rfl⟩
                        go_wp2_with fail
                        refine (cF.out _ hh1).mono ?_; rintro e w' ⟨rfl, rfl⟩
                        go_wp2_with fail
                        refine (cD.out _ hh1).mono ?_; rintro e w' ⟨rfl, rfl⟩
                        go_wp2_with fail
                        go_roundw
                        case rel => exact ⟨k + 1, rfl, by omega, by omega, by rw [H.out.1]; exact hh1, bel1⟩
                        case measure => simp [intOf]; omega
                      · clear hfin
                        go_wp2_with fail
                        refine (cA.out _ hd1).mono ?_; rintro e w' ⟨rfl, rfl⟩
                        go_wp2_with fail
                        refine (cB.out _ hh1).mono ?_; rintro e w' ⟨rfl, rfl⟩
                        go_wp2_with fail
                        refine (cC.out _ hd1).mono ?_; rintro e w' ⟨rfl, rfl⟩
                        go_wp2_with fail
                        refine (cE.out _ hd1).mono ?_; rintro e w' ⟨rfl, rfl⟩
                        go_wp2_with fail
                        refine (cF.out _ hh1).mono ?_; rintro e w' ⟨rfl, rfl⟩
                        go_wp2_with fail
                        refine (cD.out _ hh1).mono ?_; rintro e w' ⟨rfl, rfl⟩
                        go_wp2_with fail
                        go_roundw
                        case rel => exact ⟨k + 1, rfl, by omega, by omega, by rw [H.out.1]; exact hh1, bel1⟩
                        case measure => simp [intOf]; omega
                · cases E
                  · cases F
                    · cases G
                      · exfalso; simp at hfin
                      · exfalso; simp at hfin
                    · cases G
                      · exfalso; simp at hfin
                      · clear hfin
                        go_wp2_with fail
                        refine (cA.out _ hd1).mono ?_; rintro e w' ⟨rfl, rfl⟩
                        go_wp2_with fail
                        refine (cB.out _ hh1).mono ?_; rintro e w' ⟨rfl, rfl⟩
                        go_wp2_with fail
                        refine (cC.out _ hd1).mono ?_; rintro e w' ⟨rfl, rfl⟩
                        go_wp2_with fail
                        refine (cE.out _ hd1).mono ?_; rintro e w' ⟨rfl, rfl⟩
                        go_wp2_with fail
                        refine (cD.out _ hh1).mono ?_; rintro e w' ⟨rfl, rfl⟩
                        go_wp2_with fail
                        refine (cB.out _ hh1).mono ?_; rintro e w' ⟨rfl, rfl⟩
                        go_wp2_with fail
                        refine (cF.out _ hh1).mono ?_; rintro e w' ⟨rfl, rfl⟩
                        go_wp2_with fail
                        refine (cG.out _ hh1).mono ?_; rintro e w' ⟨rfl, rfl⟩
                        go_wp2_with fail
                        go_roundw
                        case rel => exact ⟨k + 1, rfl, by omega, by omega, by rw [H.out.1]; exact hh1, bel1⟩
                        case measure => simp [intOf]; omega
                  · cases F
                    · cases G
                      · exfalso; simp at hfin
                      · exfalso; simp at hfin
                    · cases G
                      · exfalso; simp at hfin
                      · clear hfin
                        go_wp2_with fail
                        refine (cA.out _ hd1).mono ?_; rintro e w' ⟨rfl, rfl⟩
                        go_wp2_with fail
                        refine (cB.out _ hh1).mono ?_; rintro e w' ⟨rfl, rfl⟩
                        go_wp2_with fail
                        refine (cC.out _ hd1).mono ?_; rintro e w' ⟨rfl, rfl⟩
                        go_wp2_with fail
                        refine (cE.out _ hd1).mono ?_; rintro e w' ⟨rfl, rfl⟩
                        go_wp2_with fail
                        refine (cF.out _ hh1).mono ?_; rintro e w' ⟨rfl, rfl⟩
                        go_wp2_with fail
                        refine (cD.out _ hh1).mono ?_; rintro e w' ⟨rfl, rfl⟩
                        go_wp2_with fail
                        refine (cB.out _ hh1).mono ?_; rintro e w' ⟨rfl, rfl⟩
                        go_wp2_with fail
                        refine (cF.out _ hh1).mono ?_; rintro e w' ⟨rfl, rfl⟩
                        go_wp2_with fail
                        refine (cG.out _ hh1).mono ?_; rintro e w' ⟨rfl, rfl⟩
                        go_wp2_with fail
                        go_roundw
                        case rel => exact ⟨k + 1, rfl, by omega, by omega, by rw [H.out.1]; exact hh1, bel1⟩
                        case measure => simp [intOf]; omega
              · cases D
                · cases E
                  · cases F
                    · cases G
                      · exfalso; simp at hfin
                      · exfalso; simp at hfin
                    · cases G
                      · exfalso; simp at hfin
                      · exfalso; simp at hfin
                  · cases F
                    · cases G
                      · exfalso; simp at hfin
                      · exfalso; simp at hfin
                    · cases G
                      · exfalso; simp at hfin
                      · exfalso; simp at hfin
                · cases E
                  · cases F
                    · cases G
                      · exfalso; simp at hfin
                      · exfalso; simp at hfin
                    · cases G
                      · exfalso; simp at hfin
                      · clear hfin
                        go_wp2_with fail
                        refine (cA.out _ hd1).mono ?_; rintro e w' ⟨rfl, rfl⟩
                        go_wp2_with fail
                        refine (cB.out _ hh1).mono ?_; rintro e w' ⟨rfl, rfl⟩
                        go_wp2_with fail
                        refine (cC.out _ hd1).mono ?_; rintro e w' ⟨rfl, rfl⟩
                        go_wp2_with fail
                        refine (cD.out _ hh1).mono ?_; rintro e w' ⟨rfl, rfl⟩
                        go_wp2_with fail
                        refine (cE.out _ hd1).mono ?_; rintro e w' ⟨rfl, rfl⟩
                        go_wp2_with fail
                        refine (cD.out _ hh1).mono ?_; rintro e w' ⟨rfl, rfl⟩
                        go_wp2_with fail
                        refine (cB.out _ hh1).mono ?_; rintro e w' ⟨rfl, rfl⟩
                        go_wp2_with fail
                        refine (cF.out _ hh1).mono ?_; rintro e w' ⟨rfl, rfl⟩
                        go_wp2_with fail
                        refine (cG.out _ hh1).mono ?_; rintro e w' ⟨rfl, rfl⟩
                        go_wp2_with fail
                        go_roundw
                        case rel => exact ⟨k + 1, rfl, by omega, by omega, by rw [H.out.1]; exact hh1, bel1⟩
                        case measure => simp [intOf]; omega
                  · cases F
                    · cases G
                      · exfalso; simp at hfin
                      · exfalso; simp at hfin
                    · cases G
                      · exfalso; simp at hfin
                      · clear hfin
                        go_wp2_with fail
                        refine (cA.out _ hd1).mono ?_; rintro e w' ⟨rfl, rfl⟩
                        go_wp2_with fail
                        refine (cB.out _ hh1).mono ?_; rintro e w' ⟨rfl, rfl⟩
                        go_wp2_with fail
                        refine (cC.out _ hd1).mono ?_; rintro e w' ⟨rfl, rfl⟩
                        go_wp2_with fail
                        refine (cD.out _ hh1).mono ?_; rintro e w' ⟨rfl, rfl⟩
                        go_wp2_with fail
                        refine (cE.out _ hd1).mono ?_; rintro e w' ⟨rfl, rfl⟩
                        go_wp2_with fail
                        refine (cF.out _ hh1).mono ?_; rintro e w' ⟨rfl, rfl⟩
                        go_wp2_with fail
                        refine (cD.out _ hh1).mono ?_; rintro e w' ⟨rfl, rfl⟩
                        go_wp2_with fail
                        refine (cB.out _ hh1).mono ?_; rintro e w' ⟨rfl, rfl⟩
                        go_wp2_with fail
                        refine (cF.out _ hh1).mono ?_; rintro e w' ⟨rfl, rfl⟩
                        go_wp2_with fail
                        refine (cG.out _ hh1).mono ?_; rintro e w' ⟨rfl, rfl⟩
                        go_wp2_with fail
                        go_roundw
                        case rel => exact ⟨k + 1, rfl, by omega, by omega, by rw [H.out.1]; exact hh1, bel1⟩
                        case measure => simp [intOf]; omega
    · have hx : ¬ (k < len ∧ k < 60) := hlt
      clear hlt
      by_cases h1 : k < len
      · have h2 : k = 60 := by omega
        subst h2
        go_wp2_with fail
        go_returns
        exact ⟨rfl, bel⟩
      · go_wp2_with fail
        go_returns
        exact ⟨rfl, bel⟩
end Go.Proofs.Ytkhjfknmjbffdaa
