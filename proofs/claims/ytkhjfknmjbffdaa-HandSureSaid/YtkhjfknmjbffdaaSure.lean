/-
  The walk of HandSure: it answers true whatever the calls, and turns nothing that was there.
-/
import Derived.Test.YtkhjfknmjbffdaaWorks
import Derived.Deep.DeepCutAuto
namespace Go.Proofs.Ytkhjfknmjbffdaa
open Go.RowKit Go.Sort
set_option linter.unusedVariables false
set_option linter.unusedSimpArgs false

/-- What a client's and a server's handshake have in common behind the same calls. -/
def Pair (C S : HS) : Prop := C.ok ∧ S.ok ∧ C.sv = false ∧ S.sv = true ∧ C.v = true ∧ C.s0 = S.s0 ∧ C.s1 = S.s1 ∧ C.s2 = S.s2 ∧ C.c = S.c
theorem needs_put {C S : HS} (h0 : C.s0 = S.s0) (h1 : C.s1 = S.s1) (h2 : C.s2 = S.s2) (s : Int) : C.needs s = S.needs s ∧ C.st s = S.st s := by
  unfold HS.needs HS.st; rw [h0, h1, h2]; exact ⟨rfl, rfl⟩
theorem pair_call {C S : HS} (h : Pair C S) (k p : Int) : Pair (C.callS k p) (S.callS k p) := by
  obtain ⟨a, b, c, d, e, f, g, i, j⟩ := h
  have hn := fun s => (needs_put f g i s).1
  have hs := fun s => (needs_put f g i s).2
  refine ⟨ok_call a k p, ok_call b k p, ?_⟩
  unfold HS.callS
  split
  · unfold HS.keysS; rw [hs]; split <;> simp [HS.put, *]
  split
  · unfold HS.discS; rw [hn]; split <;> simp [HS.put, *]
  split
  · simp [HS.valS, *]
  split
  · unfold HS.confS; rw [hn]; split <;> simp [*]
  · unfold HS.ansS; rw [hn]; split <;> simp [*]
theorem pair_start : Pair (HS.start false) (HS.start true) := ⟨ok_start _, ok_start _, rfl, rfl, rfl, rfl, rfl, rfl, rfl⟩
theorem pair_play (z : Nat → Nat → Int) (n : Nat) : Pair (playN (HS.start false) z n) (playN (HS.start true) z n) := by
  induction n with
  | zero => exact pair_start
  | succ n ih => exact pair_call ih _ _
theorem Pair.server {C S : HS} (h : Pair C S) : S.sure = true := by unfold HS.sure; rw [h.2.2.2.1]; rfl
theorem lives_needs (S : HS) (s : Int) : S.lives s = decide (S.needs s = 0) := by
  unfold HS.lives HS.needs
  by_cases hs : 0 ≤ s ∧ s < 3
  · by_cases h1 : S.st s = 1 <;> simp [hs, h1]
  · simp [hs]
/-- A client's other side is sure just if it was, or it was answered in a later space that lived, or it is confirmed as the last one lived. -/
theorem sure_call {C : HS} (hsv : C.sv = false) (k p : Int) (k0 : 0 ≤ k) (k6 : k < 6) (p0 : 0 ≤ p) :
    (C.callS k p).sure = (C.sure || (decide (k = 5) && (decide (0 < p) && C.lives p)) || (decide (k = 4) && C.lives 2)) := by
  rw [lives_needs, lives_needs]
  obtain rfl | rfl | rfl | rfl | rfl | rfl : k = 0 ∨ k = 1 ∨ k = 2 ∨ k = 3 ∨ k = 4 ∨ k = 5 := by omega
  · simp [HS.callS, HS.keysS]; split <;> simp [HS.put, HS.sure]
  · simp [HS.callS, HS.keysS]; split <;> simp [HS.put, HS.sure]
  · simp [HS.callS, HS.discS]; split <;> simp [HS.put, HS.sure]
  · simp [HS.callS, HS.valS, HS.sure]
  · simp [HS.callS, HS.confS]; split <;> simp_all [HS.sure]
  · simp only [HS.callS, HS.ansS]
    by_cases hn : C.needs p = 0
    · by_cases hp : p = 0
      · simp [hn, hp, HS.sure]
      · have : 0 < p := by omega
        simp [hn, hp, this, HS.sure]
    · simp [hn, HS.sure]

def SRel (w : World) (bc bs len : Nat) (z : Nat → Nat → Int) (su i : Value) (wr : World) : Prop :=
  ∃ k : Nat, i = .int .i64 (k : Int) ∧ su = .bool (playN (HS.start false) z k).sure ∧ k ≤ len ∧ k ≤ 60 ∧ IsHand wr bc (playN (HS.start false) z k) ∧ IsHand wr bs (playN (HS.start true) z k) ∧ Below w.heap.size w wr
set_option maxRecDepth 100000 in
set_option maxHeartbeats 4000000 in
theorem handSure_any (a : Option Addr) (len cap : Nat) (z : Nat → Nat → Int) (w : World) (hz : IsRows w a len 2 z) :
    Calls Try.prog 3 #[.slice a len cap] w fun e w' => e = .returned (.bool true) ∧ Below w.heap.size w w' := by
  have hlen := hz.1
  unfold maxLen at hlen
  go_enter Try.func3, Try.ntmps3
  go_wp2_with fail
  refine (new_any false w).mono ?_; rintro e w1 ⟨rfl, hc, bel⟩
  obtain ⟨bc, hbc⟩ : ∃ b, b = w.heap.size := ⟨_, rfl⟩
  rw [← hbc] at hc ⊢
  have hC : w.heap.size ≤ bc := by omega
  have hlt := hc.lt
  clear hbc
  go_wp2_with fail
  refine (new_any true w1).mono ?_; rintro e w2 ⟨rfl, hs, hb⟩
  obtain ⟨bs, hbs⟩ : ∃ b, b = w1.heap.size := ⟨_, rfl⟩
  rw [← hbs] at hs ⊢
  have hS : w.heap.size ≤ bs := by have := bel.size; omega
  have hne : bc ≠ bs := by omega
  clear hbs hlt
  replace hc := hc.keep hb
  replace bel := below_after bel hb
  clear hb
  go_wp2_with fail
  go_loopw [5, 6] (SRel w bc bs len z) (fun _ i _ => (len - (intOf i).toNat))
  case atStart => exact ⟨0, rfl, rfl, by omega, by omega, hc, hs, bel⟩
  case round =>
    clear hc hs bel
    obtain ⟨k, rfl, rfl, hk, hk60, hc, hs, bel⟩ := hrel
    by_cases hlt : k < len ∧ k < 60
    · obtain ⟨hlt, hlt60⟩ := hlt
      obtain ⟨bz, off, ha, hbz, c0, c1, ⟨lo0, hi0⟩, ⟨lo1, hi1⟩⟩ := hz.row bel hlt
      subst ha
      have hp := pair_play z k
      obtain ⟨C, hCC⟩ : ∃ C, C = playN (HS.start false) z k := ⟨_, rfl⟩
      obtain ⟨S, hSS⟩ : ∃ S, S = playN (HS.start true) z k := ⟨_, rfl⟩
      have hC1 : playN (HS.start false) z (k + 1) = C.callS (z k 0 % 6) (z k 1 % 3) := by rw [hCC]; rfl
      have hS1 : playN (HS.start true) z (k + 1) = S.callS (z k 0 % 6) (z k 1 % 3) := by rw [hSS]; rfl
      rw [← hCC, ← hSS] at hp
      rw [← hCC] at hc ⊢
      rw [← hSS] at hs
      obtain ⟨q, hq⟩ : ∃ q, z k 0 % 6 = q := ⟨_, rfl⟩
      obtain ⟨p, hpp⟩ : ∃ p, z k 1 % 3 = p := ⟨_, rfl⟩
      rw [hq, hpp] at hC1 hS1
      have H := hide (And.intro hC1 (And.intro hS1 (And.intro hq hpp)))
      have q0 : 0 ≤ q := by omega
      have q6 : q < 6 := by omega
      have p0 : 0 ≤ p := by omega
      have p3 : p < 3 := by omega
      have hsu := sure_call hp.2.2.1 q p q0 q6 p0
      have HSU := hide hsu
      clear hCC hSS hC1 hS1 hq hpp hsu
      generalize z k 0 = t at *
      generalize z k 1 = s at *
      have hok := hp.1
      have hokS := hp.2.1
      have hp' := pair_call hp q p
      have HP := hide hp'
      clear hp hp'
      go_wp2_with fail
      refine (bring_eq s 3 p _ lo1 hi1 (by omega) (by omega) H.out.2.2.2).mono ?_; rintro e w' ⟨rfl, rfl⟩
      go_wp2_with fail
      refine (lives_any bc C p _ hc hok).mono ?_; rintro e w' ⟨rfl, rfl⟩
      go_wp2_with fail
      refine (lives_any bc C 2 _ hc hok).mono ?_; rintro e w' ⟨rfl, rfl⟩
      go_wp2_with fail
      refine (bring_eq t 6 q _ lo0 hi0 (by omega) (by omega) H.out.2.2.1).mono ?_; rintro e w' ⟨rfl, rfl⟩
      go_wp2_with fail
      refine (call_any bc C t s q p _ hc hok lo0 hi0 lo1 hi1 H.out.2.2.1 H.out.2.2.2).mono ?_; rintro e w3 ⟨rfl, hc1, ho⟩
      have hs1 := hs.away ho hne.symm
      have bel1 := ho.below bel hC bel.size
      replace c0 := ho.cell c0 (by show bz ≠ bc; omega)
      replace c1 := ho.cell c1 (by show bz ≠ bc; omega)
      clear hc hs ho bel
      go_wp2_with fail
      refine (call_any bs S t s q p _ hs1 hokS lo0 hi0 lo1 hi1 H.out.2.2.1 H.out.2.2.2).mono ?_; rintro e w4 ⟨rfl, hs2, ho⟩
      have hc2 := hc1.away ho hne
      have bel2 := ho.below bel1 hS bel1.size
      clear hc1 hs1 ho bel1 c0 c1
      go_upto_region 12 with (fail)
      go_cut [5, 7, 8, 9, 10] (fun v _ _ _ _ wc => v = .bool (C.callS q p).sure ∧ w4 = wc)
      case first =>
        go_wp2

        all_goals
          go_meet
          case rel =>
            refine ⟨?_, rfl⟩
            rw [HSU.out]
            first
              | (simp_all; done)
              | (by_cases hp0 : 0 < p <;> cases hl : C.lives p <;> first | omega | (simp_all; done) | (simp_all; omega))
      case rest =>
        obtain ⟨rfl, rfl⟩ := hcut
        have hpN := HP.out
        have okC := hpN.1
        have okS := hpN.2.1
        have e1 : (C.callS q p).v = true := hpN.2.2.2.2.1
        have e2 : (C.callS q p).c = (S.callS q p).c := hpN.2.2.2.2.2.2.2.2
        have e3 : (S.callS q p).sure = true := hpN.server
        have HE := hide (And.intro e1 (And.intro e2 e3))
        clear e1 e2 e3 hpN
        go_wp2_with fail
        refine (sure_any bc _ _ hc2 okC).mono ?_; rintro e w' ⟨rfl, rfl⟩
        go_wp2_with fail
        refine (sure_any bs _ _ hs2 okS).mono ?_; rintro e w' ⟨rfl, rfl⟩
        rw [HE.out.2.2]
        go_wp2_with fail
        refine (valid_any bc _ _ hc2 okC).mono ?_; rintro e w' ⟨rfl, rfl⟩
        rw [HE.out.1]
        go_wp2_with fail
        refine (confirmed_any bc _ _ hc2 okC).mono ?_; rintro e w' ⟨rfl, rfl⟩
        rw [HE.out.2.1]
        go_wp2_with fail
        refine (confirmed_any bs _ _ hs2 okS).mono ?_; rintro e w' ⟨rfl, rfl⟩
        go_wp2_with fail
        go_roundw
        case rel => exact ⟨k + 1, by go_num, by rw [H.out.1], by omega, by omega, by rw [H.out.1]; exact hc2, by rw [H.out.2.1]; exact hs2, bel2⟩
        case measure => simp [intOf]; omega
    · by_cases hlt2 : k < len
      · go_wp2_with (go_at_call 17; refine (works_any _).mono ?_; rintro e wx ⟨rfl, hb⟩)
        go_ret
        exact ⟨rfl, below_after bel hb⟩
      · go_wp2_with (go_at_call 17; refine (works_any _).mono ?_; rintro e wx ⟨rfl, hb⟩)
        go_ret
        exact ⟨rfl, below_after bel hb⟩
end Go.Proofs.Ytkhjfknmjbffdaa
