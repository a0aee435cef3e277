/-
  The walk of EventParts.
-/
import Derived.Test.YtjhkgoppopfoaaaDoorEspoilt
import Derived.Test.YtjhkgoppopfoaaaDoorEwrites
import Derived.Laws.AppendOwnNone
import Derived.Deep.RegionWith
namespace Go.Proofs.YtjhkgoppopfoaaaDoor
open Go.RowKit Go.Lib Go.Maps
set_option linter.unusedVariables false
set_option linter.unusedSimpArgs false

theorem countN_evs (z : Nat → Nat → Int) (kind : Int) : ∀ n, countN z kind n = (evs z n).countP (fun e => e.k == kind)
  | 0 => rfl
  | n + 1 => by
    rw [countN, countN_evs z kind n, evs_succ, List.countP_append]
    have : (evAt z n).k = z n 0 := rfl
    by_cases h : z n 0 = kind
    · rw [if_pos h, List.countP_singleton]; simp [this, h]
    · rw [if_neg h, List.countP_singleton]; simp [this, h]
theorem countN_app (a b : List Ev) (kind : Int) : countN (zOf (a ++ b)) kind (a ++ b).length = countN (zOf a) kind a.length + countN (zOf b) kind b.length := by
  rw [countN_evs, countN_evs, countN_evs, evs_zOf, evs_zOf, evs_zOf, List.countP_append]
set_option maxRecDepth 100000 in
set_option maxHeartbeats 8000000 in
theorem eventParts_any (a1 : Option Addr) (len1 cap1 : Nat) (z1 : Nat → Nat → Int) (a2 : Option Addr) (len2 cap2 : Nat) (z2 : Nat → Nat → Int) (kind : Int) (w : World) (g : Gd w) (h1 : IsEvs w a1 len1 3 z1) (hf1 : SlF a1 len1 cap1) (h2 : IsEvs w a2 len2 3 z2) (hf2 : SlF a2 len2 cap2) (hkd : IsI kind) :
    Calls Tryd.prog 10 #[.slice a1 len1 cap1, .slice a2 len2 cap2, .int .i64 kind] w fun e w' => e = .returned (.bool true) ∧ Below w.heap.size w w' := by
  obtain ⟨hlc1, hcm1, hnn1⟩ := hf1
  obtain ⟨hlc2, hcm2, hnn2⟩ := hf2
  have hc1' : cap1 ≤ 9223372036854775807 := Nat.le_trans hcm1 (by decide)
  have hc2' : cap2 ≤ 9223372036854775807 := Nat.le_trans hcm2 (by decide)
  have M1 : Hid (∀ wq, Below w.heap.size w wq → ∀ m, m ≤ len1 → m ≤ 100 → Calls Tryd.prog 27 #[.slice a1 m cap1] wq fun e w' => ∃ v, e = .returned v ∧ w'.ownsRow wq.heap.size 52 4 v m (flatE (madeE z1 m)) ∧ Below wq.heap.size wq w') := hide (fun wq hb m hm h100 => made60 a1 len1 cap1 m z1 wq (h1.keep hb) hm h100)
  have M2 : Hid (∀ wq, Below w.heap.size w wq → ∀ m, m ≤ len2 → m ≤ 100 → Calls Tryd.prog 27 #[.slice a2 m cap2] wq fun e w' => ∃ v, e = .returned v ∧ w'.ownsRow wq.heap.size 52 4 v m (flatE (madeE z2 m)) ∧ Below wq.heap.size wq w') := hide (fun wq hb m hm h100 => made60 a2 len2 cap2 m z2 wq (h2.keep hb) hm h100)
  have hbd := below_drew1 w
  go_enter Tryd.func10, Tryd.ntmps10
  go_upto_region 1 with (fail)
  go_cut [7, 8, 16, 17, 18, 19, 20, 21, 22, 23, 24, 25, 26, 27] (fun v1 v2 _ _ _ _ _ _ _ _ _ _ _ _ wc => ∃ (m1 m2 : Nat) (e1 e2 : List Ev), m1 ≤ 100 ∧ m2 ≤ 100 ∧ (∀ e ∈ e1, Ev.ok e) ∧ (∀ e ∈ e2, Ev.ok e) ∧ wc.ownsRow w.heap.size 52 4 v1 m1 (flatE e1) ∧ wc.ownsRow w.heap.size 52 4 v2 m2 (flatE e2) ∧ Below w.heap.size w wc)
  case first =>
    refine wp_region_held_drew (S := fun _ => True) (by kernel_rfl) trivial (fun hHeld => ?_)
    refine wpAnyH_take (i := 0) (v := .slice a1 len1 cap1) rfl (by kernel_rfl) (by kernel_rfl) (by kernel_rfl) (fun _ _ _ h => h) (Or.inl ⟨by rfl, ?_⟩) trivial ?_
    · intro w hSw
      go_simp
    simp only [Act.put, List.setIfInBounds_toArray, List.set_cons_zero, List.set_cons_succ]
    refine wpAnyH_take (i := 1) (v := .slice a1 len1 cap1) rfl (by kernel_rfl) (by kernel_rfl) (by kernel_rfl) (fun _ _ _ h => h) (Or.inl ⟨by rfl, ?_⟩) trivial ?_
    · intro w hSw
      go_simp
    simp only [Act.put, List.setIfInBounds_toArray, List.set_cons_zero, List.set_cons_succ]
    refine wpAnyH_take (i := 2) (v := .int .i64 (len1 : Int)) rfl (by kernel_rfl) (by kernel_rfl) (by kernel_rfl) (fun _ _ _ h => h) (Or.inl ⟨by rfl, ?_⟩) trivial ?_
    · intro w hSw
      go_simp
    simp only [Act.put, List.setIfInBounds_toArray, List.set_cons_zero, List.set_cons_succ]
    refine wpAnyH_take (i := 3) (v := .int .i64 (min (len1 : Int) 100)) rfl (by kernel_rfl) (by kernel_rfl) (by kernel_rfl) (fun _ _ _ h => h) (Or.inl ⟨by rfl, ?_⟩) trivial ?_
    · intro w hSw
      go_simp
    simp only [Act.put, List.setIfInBounds_toArray, List.set_cons_zero, List.set_cons_succ]
    refine wpAnyH_take (i := 4) (v := .slice a1 (min (len1 : Int) 100).toNat cap1) rfl (by kernel_rfl) (by kernel_rfl) (by kernel_rfl) (fun _ _ _ h => h) (Or.inl ⟨by rfl, ?_⟩) trivial ?_
    · intro w hSw
      cases a1 with
      | none =>
        obtain ⟨rfl, rfl⟩ := hnn1 rfl
        go_simp
        intro hx
        have := hx (by omega)
        omega
      | some ad =>
        go_simp
        intro hx
        have := hx (by omega)
        omega
    simp only [Act.put, List.setIfInBounds_toArray, List.set_cons_zero, List.set_cons_succ]
    refine wpAnyH_take (i := 6) (v := .slice a2 len2 cap2) rfl (by kernel_rfl) (by kernel_rfl) (by kernel_rfl) (fun _ _ _ h => h) (Or.inl ⟨by rfl, ?_⟩) trivial ?_
    · intro w hSw
      go_simp
    simp only [Act.put, List.setIfInBounds_toArray, List.set_cons_zero, List.set_cons_succ]
    refine wpAnyH_take (i := 7) (v := .slice a2 len2 cap2) rfl (by kernel_rfl) (by kernel_rfl) (by kernel_rfl) (fun _ _ _ h => h) (Or.inl ⟨by rfl, ?_⟩) trivial ?_
    · intro w hSw
      go_simp
    simp only [Act.put, List.setIfInBounds_toArray, List.set_cons_zero, List.set_cons_succ]
    refine wpAnyH_take (i := 8) (v := .int .i64 (len2 : Int)) rfl (by kernel_rfl) (by kernel_rfl) (by kernel_rfl) (fun _ _ _ h => h) (Or.inl ⟨by rfl, ?_⟩) trivial ?_
    · intro w hSw
      go_simp
    simp only [Act.put, List.setIfInBounds_toArray, List.set_cons_zero, List.set_cons_succ]
    refine wpAnyH_take (i := 9) (v := .int .i64 (min (len2 : Int) 100)) rfl (by kernel_rfl) (by kernel_rfl) (by kernel_rfl) (fun _ _ _ h => h) (Or.inl ⟨by rfl, ?_⟩) trivial ?_
    · intro w hSw
      go_simp
    simp only [Act.put, List.setIfInBounds_toArray, List.set_cons_zero, List.set_cons_succ]
    refine wpAnyH_take (i := 10) (v := .slice a2 (min (len2 : Int) 100).toNat cap2) rfl (by kernel_rfl) (by kernel_rfl) (by kernel_rfl) (fun _ _ _ h => h) (Or.inl ⟨by rfl, ?_⟩) trivial ?_
    · intro w hSw
      cases a2 with
      | none =>
        obtain ⟨rfl, rfl⟩ := hnn2 rfl
        go_simp
        intro hx
        have := hx (by omega)
        omega
      | some ad =>
        go_simp
        intro hx
        have := hx (by omega)
        omega
    simp only [Act.put, List.setIfInBounds_toArray, List.set_cons_zero, List.set_cons_succ]
    refine wpAnyH_ready (rs := [5]) (by kernel_rfl) (by simp) ?_
    refine AllReadyH.cons rfl (fun K hK => ?_) AllReadyH.nil
    go_simp
    refine (M1.out _ hbd _ (by omega) (by omega)).mono ?_; rintro x w1 ⟨v1, rfl, hown1, hb1⟩
    have hB1 := below_after hbd hb1
    refine hK.out _ _ trivial (fun hHeld => ?_)
    clear hK K
    try simp only [Act.put, List.setIfInBounds_toArray, List.set_cons_zero, List.set_cons_succ]
    refine wpAnyH_ready (rs := [11]) (by kernel_rfl) (by simp) ?_
    refine AllReadyH.cons rfl (fun K hK => ?_) AllReadyH.nil
    go_simp
    refine (M2.out _ hB1 _ (by omega) (by omega)).mono ?_; rintro x w2 ⟨v2, rfl, hown2, hb2⟩
    have hB2 := below_after hB1 hb2
    have hown1' := own_keep (own_mono hown1 (show w.heap.size ≤ w.drew.heap.size from Nat.le_refl _)) hb2
    have hown2' := own_mono hown2 hB1.size
    refine hK.out _ _ trivial (fun hHeld => ?_)
    clear hK K
    try simp only [Act.put, List.setIfInBounds_toArray, List.set_cons_zero, List.set_cons_succ]
    refine wpAnyH_take (i := 12) (v := v1) rfl (by kernel_rfl) (by kernel_rfl) (by kernel_rfl) (fun _ _ _ h => h) (Or.inl ⟨by rfl, ?_⟩) trivial ?_
    · intro w hSw
      go_simp
    change wpAnyH _ _ _ _ _ _ _ (Act.put _ (some 7) _) _
    simp only [Act.put, List.setIfInBounds_toArray, List.set_cons_zero, List.set_cons_succ]
    refine wpAnyH_take (i := 13) (v := v2) rfl (by kernel_rfl) (by kernel_rfl) (by kernel_rfl) (fun _ _ _ h => h) (Or.inl ⟨by rfl, ?_⟩) trivial ?_
    · intro w hSw
      go_simp
    change wpAnyH _ _ _ _ _ _ _ (Act.put _ (some 8) _) _
    simp only [Act.put, List.setIfInBounds_toArray, List.set_cons_zero, List.set_cons_succ]
    refine wpAnyH_done (by kernel_rfl) ?_ _
    go_wp2_with fail
    go_meet
    exact ⟨_, _, _, _, by omega, by omega, madeE_ok _ _, madeE_ok _ _, hown1', hown2', hB2⟩
  case rest =>
  obtain ⟨m1, m2, es1, es2, hm1, hm2, hok1, hok2, hown1, hown2, hb⟩ := hcut
  clear M1 M2 h1 h2 hnn1 hnn2 hlc1 hlc2 hcm1 hcm2 hc1' hc2' hbd
  obtain ⟨i0, hi, hz0, hz1, hz2⟩ := info_parts Tryd.info52
  obtain ⟨hl1, b1, c1, rfl, hE1⟩ := evs_of_own hown1 (fun e he => ok_wf (hok1 e he))
  obtain ⟨hl2, b2, c2, rfl, hE2⟩ := evs_of_own hown2 (fun e he => ok_wf (hok2 e he))
  have HT1 := hide (fun wq g (h : IsEvs wq b1 m1 4 (zOf es1)) => etext_yes b1 m1 c1 (zOf es1) es1 wq g h (by omega) (by rw [← hl1]; exact evs_zOf es1) hok1)
  have HT2 := hide (fun wq g (h : IsEvs wq b2 m2 4 (zOf es2)) => etext_yes b2 m2 c2 (zOf es2) es2 wq g h (by omega) (by rw [← hl2]; exact evs_zOf es2) hok2)
  have hlen : (es1 ++ es2).length = m1 + m2 := by rw [List.length_append, hl1, hl2]
  have hokA : ∀ e ∈ es1 ++ es2, e.ok := fun e he => (List.mem_append.1 he).elim (hok1 e) (hok2 e)
  have HT3 := hide (fun wq g b c (h : IsEvs wq b (m1 + m2) 4 (zOf (es1 ++ es2))) => etext_yes b (m1 + m2) c (zOf (es1 ++ es2)) (es1 ++ es2) wq g h (by omega) (by rw [← hlen]; exact evs_zOf _) hokA)
  have ht1 := textE_len hok1
  have ht2 := textE_len hok2
  obtain ⟨T1, hT1⟩ : ∃ T, textE es1 = T := ⟨_, rfl⟩
  obtain ⟨T2, hT2⟩ : ∃ T, textE es2 = T := ⟨_, rfl⟩
  rw [textE_app] at HT3
  rw [hT1] at HT1 HT3 ht1
  rw [hT2] at HT2 HT3 ht2
  have HN : Hid (countN (zOf (es1 ++ es2)) (brI kind 8) (m1 + m2) = countN (zOf es1) (brI kind 8) m1 + countN (zOf es2) (brI kind 8) m2) := hide (by
    have := countN_app es1 es2 (brI kind 8)
    rw [hlen, hl1, hl2] at this
    exact this)
  have hq : ¬ 9223372036854775807 < T1.length + T2.length := by omega
  have CB := hide (fun w => br kind 8 w hkd (by decide) (by decide))
  have HF : Hid (∀ b c wq, IsEvs wq b m1 4 (zOf es1) → b = some c → ∀ j u, (flatE es1)[j]? = some u → wq.cell? (c.add j) = some u) := hide (fun b c wq h hb => by
    subst hb
    have := evs_news h m1 (Nat.le_refl _)
    rw [show evs (zOf es1) m1 = es1 from by rw [← hl1]; exact evs_zOf es1] at this
    exact this)
  have HG : Hid (∀ b c wq, IsEvs wq b m2 4 (zOf es2) → b = some c → ∀ j u, (flatE es2)[j]? = some u → wq.cell? (c.add j) = some u) := hide (fun b c wq h hb => by
    subst hb
    have := evs_news h m2 (Nat.le_refl _)
    rw [show evs (zOf es2) m2 = es2 from by rw [← hl2]; exact evs_zOf es2] at this
    exact this)
  have hfl1 : (flatE es1).length = m1 * 4 := by rw [flatE_len, hl1]
  have hfl2 : (flatE es2).length = m2 * 4 := by rw [flatE_len, hl2]
  have HL := hide (And.intro hl1 (And.intro hl2 hlen))
  have HO := hide hokA
  have O1 := hide hown1
  have O2 := hide hown2
  have gc := g.keep hb
  clear hT1 hT2 hown1 hown2 hok1 hok2 hokA hlen ht1 ht2 hl1 hl2
  go_wp2_with fail
  refine (HT1.out _ gc hE1).mono ?_; rintro x w1 ⟨rfl, hb1⟩
  have g1 := gc.keep hb1
  have hE1' := hE1.keep hb1
  have hE2' := hE2.keep hb1
  have hB1 := below_after hb hb1
  have P1 := hide (own_keep O1.out hb1)
  have P2 := hide (own_keep O2.out hb1)
  clear hE1 hE2 O1 O2 hb1 hb gc
  go_wp2_with fail
  refine (HT2.out _ g1 hE2').mono ?_; rintro x V ⟨rfl, hb2⟩
  have gV := g1.keep hb2
  have hE1 := hE1'.keep hb2
  have hE2 := hE2'.keep hb2
  have hBV := below_after hB1 hb2
  have O1 := hide (own_keep P1.out hb2)
  have O2 := hide (own_keep P2.out hb2)
  clear hE1' hE2' P1 P2 hb2 hB1 g1
  go_upto_region 4 with (fail)
  go_cut [13, 38, 39, 40, 41, 42] (fun v _ _ _ _ _ wd => ∃ b c, v = .slice b (m1 + m2) c ∧ IsEvs wd b (m1 + m2) 4 (zOf (es1 ++ es2)) ∧ Below V.heap.size V wd)
  case first =>
    have hown0 : (V.alloc (.cells #[] 52)).ownsRow V.heap.size 52 4 (.slice (some ⟨V.heap.size, 0, none⟩) 0 0) 0 [] := World.ownsRow_lit (e := 52) (size := 4) (base := V.heap.size) V #[] 0 (Nat.le_refl _) (by unfold maxLen; omega) rfl
    have hb0 : Below V.heap.size V (V.alloc (.cells #[] 52)) := below_alloc1 V _
    have hE1a := hE1.keep hb0
    have hE2a := hE2.keep hb0
    rcases O1.out.2 with ⟨hv, h0⟩ | ⟨G1, cap1', cur1, hv, -, -, hmc1, hcm1, -⟩
    · injection hv with hv1 hv2 hv3
      subst hv1 hv3 h0
      have n1 : es1 = [] := List.length_eq_zero_iff.1 HL.out.1
      subst n1
      rcases O2.out.2 with ⟨hv, h0⟩ | ⟨G2, cap2', cur2, hv, -, -, hmc2, hcm2, -⟩
      · injection hv with hv1 hv2 hv3
        subst hv1 hv3 h0
        have n2 : es2 = [] := List.length_eq_zero_iff.1 HL.out.2.1
        subst n2
        go_wp2_with (at_builtin; refine wpList_append_own_none rfl _ _ 41 rfl V.heap.size 52 i0 4 Tryd.underlying41 hi _ 0 [] rfl hown0 rfl ?_)
        go_meet
        exact ⟨some ⟨V.heap.size, 0, none⟩, 0, rfl, ⟨Nat.zero_le _, Or.inl rfl⟩, hb0⟩
      · injection hv with hv1 hv2 hv3
        subst hv1 hv3
        have hnw := HG.out _ _ _ hE2a rfl
        go_wp2_with (at_builtin; first | refine wpList_append_own_none rfl _ _ 41 rfl V.heap.size 52 i0 4 Tryd.underlying41 hi _ 0 [] rfl hown0 rfl ?_ | refine wpList_append_own _ rfl _ _ 41 rfl V.heap.size 52 i0 (.agg #[.int .i64 0, .int .i64 0, .int .i64 0, .int .i64 0]) 4 32 Tryd.underlying41 hi hz0 hz1 hz2 rfl (by decide) _ 0 [] rfl hown0 ⟨G2, 0, none⟩ m2 c2 (flatE es2) rfl hfl2 hnw flatE_one (by unfold maxLen; omega) (by omega) hb0.size ?_)
        intro v' wB hownB hgrowB _
        have hbB : Below V.heap.size V wB := hb0.grown hgrowB hb0.size (fun k hk => (World.ownsRow.lt hown0 k hk).1)
        obtain ⟨_, bA, cA, rfl, hEA⟩ := evs_of_own hownB (fun e he => ok_wf (HO.out e he))
        go_wp2_with fail
        go_meet
        exact ⟨bA, cA, by rw [Nat.zero_add], by rw [Nat.zero_add]; exact hEA, hbB⟩
    · injection hv with hv1 hv2 hv3
      subst hv1 hv3
      have hnw1 := HF.out _ _ _ hE1a rfl
      go_wp2_with (at_builtin; refine wpList_append_own _ rfl _ _ 41 rfl V.heap.size 52 i0 (.agg #[.int .i64 0, .int .i64 0, .int .i64 0, .int .i64 0]) 4 32 Tryd.underlying41 hi hz0 hz1 hz2 rfl (by decide) _ 0 [] rfl hown0 ⟨G1, 0, none⟩ m1 c1 (flatE es1) rfl hfl1 hnw1 flatE_one (by unfold maxLen; omega) (by omega) hb0.size ?_)
      intro v1 wA hownA hgrowA _
      have hbA : Below V.heap.size V wA := hb0.grown hgrowA hb0.size (fun k hk => (World.ownsRow.lt hown0 k hk).1)
      try rw [Nat.zero_add] at hownA
      try rw [List.nil_append] at hownA
      have hE2b := hE2.keep hbA
      rcases O2.out.2 with ⟨hv, h0⟩ | ⟨G2, cap2', cur2, hv, -, -, hmc2, hcm2, -⟩
      · injection hv with hv1 hv2 hv3
        subst hv1 hv3 h0
        have n2 : es2 = [] := List.length_eq_zero_iff.1 HL.out.2.1
        subst n2
        go_wp2_with (at_builtin; refine wpList_append_own_none rfl _ _ 41 rfl V.heap.size 52 i0 4 Tryd.underlying41 hi _ m1 (flatE es1) rfl hownA rfl ?_)
        obtain ⟨_, bA, cA, rfl, hEA⟩ := evs_of_own hownA (fun e he => ok_wf (HO.out e (by simpa using he)))
        go_wp2_with fail
        go_meet
        exact ⟨bA, cA, rfl, by simpa using hEA, hbA⟩
      · injection hv with hv1 hv2 hv3
        subst hv1 hv3
        have hnw2 := HG.out _ _ _ hE2b rfl
        go_wp2_with (at_builtin; refine wpList_append_own _ rfl _ _ 41 rfl V.heap.size 52 i0 (.agg #[.int .i64 0, .int .i64 0, .int .i64 0, .int .i64 0]) 4 32 Tryd.underlying41 hi hz0 hz1 hz2 rfl (by decide) _ m1 (flatE es1) rfl hownA ⟨G2, 0, none⟩ m2 c2 (flatE es2) rfl hfl2 hnw2 flatE_one (by unfold maxLen; omega) (by omega) hbA.size ?_)
        intro v2 wB hownB hgrowB _
        have hbB : Below V.heap.size V wB := hbA.grown hgrowB hbA.size (fun k hk => (World.ownsRow.lt hownA k hk).1)
        rw [← flatE_app] at hownB
        obtain ⟨_, bA, cA, rfl, hEA⟩ := evs_of_own hownB (fun e he => ok_wf (HO.out e he))
        go_wp2_with fail
        go_meet
        exact ⟨bA, cA, rfl, hEA, hbB⟩
  case rest =>
  obtain ⟨bA, cA, rfl, hEA, hbA⟩ := hcut
  have gA := gV.keep hbA
  have hEA1 := hE1.keep hbA
  have hEA2 := hE2.keep hbA
  have hBA := below_after hBV hbA
  clear hE1 hE2 hbA O1 O2 gV HF HG
  have hs : (⟨T1.toArray⟩ : ByteArray) ++ ⟨T2.toArray⟩ = ⟨(T1 ++ T2).toArray⟩ := by
    apply ByteArray.ext
    simp
  rw [← hs] at HT3
  clear hs
  go_wp2_with fail
  refine (HT3.out _ gA bA cA hEA).mono ?_; rintro x w3 ⟨rfl, hb3⟩
  have g3 := gA.keep hb3
  have hEA' := hEA.keep hb3
  have hE1 := hEA1.keep hb3
  have hE2 := hEA2.keep hb3
  have hB3 := below_after hBA hb3
  clear hEA hEA1 hEA2 hb3 gA HT1 HT2 HT3
  obtain ⟨kd, hkd'⟩ : ∃ kd, brI kind 8 = kd := ⟨_, rfl⟩
  rw [hkd'] at HN CB
  clear hkd'
  have r1 := countN_le (zOf es1) kd m1
  have r2 := countN_le (zOf es2) kd m2
  have K1 := hide (fun wq (h : IsEvs wq b1 m1 4 (zOf es1)) => ecount_any b1 m1 c1 (zOf es1) kd wq h)
  have K2 := hide (fun wq (h : IsEvs wq b2 m2 4 (zOf es2)) => ecount_any b2 m2 c2 (zOf es2) kd wq h)
  obtain ⟨N1, hN1⟩ : ∃ N, countN (zOf es1) kd m1 = N := ⟨_, rfl⟩
  obtain ⟨N2, hN2⟩ : ∃ N, countN (zOf es2) kd m2 = N := ⟨_, rfl⟩
  rw [hN1] at K1 HN r1
  rw [hN2] at K2 HN r2
  have K3 : Hid (∀ wq, IsEvs wq bA (m1 + m2) 4 (zOf (es1 ++ es2)) → Calls Tryd.prog 35 #[.slice bA (m1 + m2) cA, .int .i64 kd] wq fun e w' => e = .returned (.int .i64 ((N1 : Int) + (N2 : Int))) ∧ Below wq.heap.size wq w') := hide (fun wq h => by
    have := ecount_any bA (m1 + m2) cA (zOf (es1 ++ es2)) kd wq h
    rw [HN.out] at this
    rw [show (N1 : Int) + (N2 : Int) = ((N1 + N2 : Nat) : Int) from by omega]
    exact this)
  clear hN1 hN2
  go_wp2_with fail
  refine (CB.out _).mono ?_; rintro x w4 ⟨rfl, rfl⟩
  go_wp2_with fail
  refine (K3.out _ hEA').mono ?_; rintro x w5 ⟨rfl, hb5⟩
  have hE1 := hE1.keep hb5
  have hE2 := hE2.keep hb5
  have hB5 := below_after hB3 hb5
  clear hEA' hb5 hB3
  go_wp2_with fail
  refine (K1.out _ hE1).mono ?_; rintro x w6 ⟨rfl, hb6⟩
  have hE2 := hE2.keep hb6
  have hB6 := below_after hB5 hb6
  clear hE1 hb6 hB5
  go_wp2_with fail
  refine (K2.out _ hE2).mono ?_; rintro x w7 ⟨rfl, hb7⟩
  have hB7 := below_after hB6 hb7
  clear hE2 hb7 hB6
  go_wp2_with fail
  refine (works22_any _ (g.keep hB7)).mono ?_; rintro x w8 ⟨rfl, hb8⟩
  go_wp2_with fail
  go_ret
  exact ⟨rfl, below_after hB7 hb8⟩
end Go.Proofs.YtjhkgoppopfoaaaDoor
