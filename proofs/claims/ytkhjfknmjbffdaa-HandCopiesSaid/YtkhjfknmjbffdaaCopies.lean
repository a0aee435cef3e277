/-
  The walk of HandCopies: a copy is as the one that it was made of, and goes on by itself: it answers true whatever the calls, and turns nothing that was there.
-/
import Derived.Test.YtkhjfknmjbffdaaWorks
import Derived.Laws.AppendOwnNone
import Derived.Deep.DeepCutAuto
namespace Go.Proofs.Ytkhjfknmjbffdaa
open Go.RowKit Go.Sort
set_option linter.unusedVariables false
set_option linter.unusedSimpArgs false

/-- A list of calls, as its cells. -/
def flat (z : Nat → Nat → Int) (n : Nat) : List Value := (List.range (n * 2)).map fun j => Value.int .i64 (z (j / 2) (j % 2))
theorem flat_len (z : Nat → Nat → Int) (n : Nat) : (flat z n).length = n * 2 := by simp [flat]
theorem flat_at {z : Nat → Nat → Int} {n j : Nat} {u : Value} (h : (flat z n)[j]? = some u) : j < n * 2 ∧ u = .int .i64 (z (j / 2) (j % 2)) := by
  unfold flat at h
  rw [List.getElem?_map] at h
  by_cases hj : j < n * 2
  · rw [List.getElem?_range hj] at h
    exact ⟨hj, by simpa using h.symm⟩
  · rw [List.getElem?_eq_none (by simpa using hj)] at h; cases h
theorem flat_is {z : Nat → Nat → Int} {n j : Nat} (h : j < n * 2) : (flat z n)[j]? = some (.int .i64 (z (j / 2) (j % 2))) := by
  unfold flat; rw [List.getElem?_map, List.getElem?_range h]; rfl
def glue (m : Nat) (z1 z2 : Nat → Nat → Int) (i j : Nat) : Int := if i < m then z1 i j else z2 (i - m) j
theorem flat_glue (z1 z2 : Nat → Nat → Int) (m n : Nat) : flat z1 m ++ flat z2 n = flat (glue m z1 z2) (m + n) := by
  apply List.ext_getElem?
  intro j
  by_cases h1 : j < m * 2
  · rw [List.getElem?_append_left (by rw [flat_len]; exact h1), flat_is h1, flat_is (by omega)]
    unfold glue; rw [if_pos (by omega)]
  · rw [List.getElem?_append_right (by rw [flat_len]; omega), flat_len]
    by_cases h2 : j < (m + n) * 2
    · rw [flat_is (by omega), flat_is h2]
      unfold glue; rw [if_neg (by omega)]
      have e1 : (j - m * 2) / 2 = j / 2 - m := by omega
      have e2 : (j - m * 2) % 2 = j % 2 := by omega
      rw [e1, e2]
    · rw [List.getElem?_eq_none (by rw [flat_len]; omega), List.getElem?_eq_none (by rw [flat_len]; omega)]
theorem rows_news {w : World} {ad : Addr} {len m : Nat} {z : Nat → Nat → Int} (h : IsRows w (some ad) len 2 z) (hm : m ≤ len) : ∀ j u, (flat z m)[j]? = some u → w.cell? (ad.add j) = some u := by
  intro j u hu
  obtain ⟨hj, rfl⟩ := flat_at hu
  rcases h.2 with h0 | ⟨b, off, ha, hc⟩
  · omega
  · obtain rfl : ad = ⟨b, off, none⟩ := Option.some.inj ha
    have := (hc (j / 2) (by omega) (j % 2) (by omega)).1
    have e : j / 2 * 2 + j % 2 = j := by omega
    rw [e] at this
    have hadd : (⟨b, off, none⟩ : Addr).add j = ⟨b, off + j, none⟩ := by unfold Addr.add; split <;> simp_all
    rw [hadd]; exact this
theorem flat_one (z : Nat → Nat → Int) (n : Nat) : ∀ u ∈ flat z n, u.oneCell' = true := by
  intro u hu
  unfold flat at hu
  rw [List.mem_map] at hu
  obtain ⟨j, _, rfl⟩ := hu
  rfl
/-- All numbers that the rows hold are whole numbers of 64 bits. -/
def InR (z : Nat → Nat → Int) (n : Nat) : Prop := ∀ i, i < n → ∀ j, j < 2 → -9223372036854775808 ≤ z i j ∧ z i j ≤ 9223372036854775807
theorem IsRows.inR {w : World} {a : Option Addr} {len : Nat} {z : Nat → Nat → Int} (h : IsRows w a len 2 z) : InR z len := by
  intro i hi j hj
  rcases h.2 with h0 | ⟨b, off, ha, hc⟩
  · omega
  · exact (hc i hi j hj).2
theorem inR_glue {z1 z2 : Nat → Nat → Int} {m n : Nat} (h1 : InR z1 m) (h2 : InR z2 n) : InR (glue m z1 z2) (m + n) := by
  intro i hi j hj
  unfold glue; split
  · exact h1 i (by omega) j hj
  · exact h2 (i - m) (by omega) j hj
theorem rows_own {w : World} {B : Nat} {v : Value} {n : Nat} {z : Nat → Nat → Int} (h : w.ownsRow B 27 2 v n (flat z n)) (hr : InR z n) (hn : n ≤ maxLen) : ∃ a c, v = .slice a n c ∧ IsRows w a n 2 z ∧ ∀ g off, a = some ⟨g, off, none⟩ → B ≤ g := by
  obtain ⟨hl, ⟨hv, h0⟩ | ⟨g, cap, cur, hv, hB, hg, hcp, hcap, hsz, hcur⟩⟩ := h
  · subst h0; exact ⟨none, 0, hv, ⟨hn, Or.inl rfl⟩, fun _ _ h => by cases h⟩
  · refine ⟨_, _, hv, ⟨hn, Or.inr ⟨g, 0, rfl, fun i hi j hj => ⟨?_, hr i hi j hj⟩⟩⟩, fun _ _ h => by cases h; exact hB⟩
    have hlt : i * 2 + j < n * 2 := by omega
    have e := flat_is (z := z) hlt
    rw [← hcur, List.getElem?_take, if_pos (by omega)] at e
    have hc : w.cell? ⟨g, 0 + (i * 2 + j), none⟩ = cur[i * 2 + j]? := by simp [World.cell?, hg]
    rw [hc, ← Array.getElem?_toList, e]
    have e1 : (i * 2 + j) / 2 = i := by omega
    have e2 : (i * 2 + j) % 2 = j := by omega
    rw [e1, e2]
theorem play_glue (S : HS) (z1 z2 : Nat → Nat → Int) (m : Nat) : ∀ n, playN S (glue m z1 z2) (m + n) = playN (playN S z1 m) z2 n := by
  have h1 : ∀ k, k ≤ m → playN S (glue m z1 z2) k = playN S z1 k := by
    intro k
    induction k with
    | zero => intro _; rfl
    | succ k ih =>
      intro hk
      unfold playN
      rw [ih (by omega)]
      unfold glue; rw [if_pos (by omega), if_pos (by omega)]
  intro n
  induction n with
  | zero => exact h1 m (Nat.le_refl _)
  | succ n ih =>
    show (playN S (glue m z1 z2) (m + n)).callS (glue m z1 z2 (m + n) 0 % 6) (glue m z1 z2 (m + n) 1 % 3) = (playN (playN S z1 m) z2 n).callS (z2 n 0 % 6) (z2 n 1 % 3)
    rw [ih]
    unfold glue; rw [if_neg (by omega), if_neg (by omega), show m + n - m = n by omega]
theorem Try.info27 : (Try.prog.info? 27).map (fun i => (i.zero, i.size, i.bytes)) = some (some (.agg #[.int .i64 0, .int .i64 0]), 2, 16) := by kernel_rfl
theorem IsRows.away {w w' : World} {a : Option Addr} {len n b : Nat} {z : Nat → Nat → Int} (h : IsRows w a len n z) (k : Only b w w') (hne : ∀ g off, a = some ⟨g, off, none⟩ → g ≠ b) : IsRows w' a len n z := by
  refine ⟨h.1, ?_⟩
  rcases h.2 with h0 | ⟨g, off, ha, hc⟩
  · exact Or.inl h0
  · refine Or.inr ⟨g, off, ha, fun i hi j hj => ?_⟩
    obtain ⟨h1, h2⟩ := hc i hi j hj
    exact ⟨k.cell h1 (hne g off ha), h2⟩
def CRel (W : World) (c m len : Nat) (S : HS) (z : Nat → Nat → Int) (i : Value) (wr : World) : Prop :=
  ∃ k : Nat, i = .int .i64 (k : Int) ∧ k ≤ len ∧ k ≤ 60 - m ∧ IsHand wr c (playN S z k) ∧ Only c W wr
def FRel (w : World) (h d c b : Nat) (S C : HS) (i : Value) (wr : World) : Prop :=
  ∃ x : Int, i = .int .i64 x ∧ 0 ≤ x ∧ x ≤ 3 ∧ IsHand wr h S ∧ IsHand wr d S ∧ IsHand wr c C ∧ IsHand wr b C ∧ Below w.heap.size w wr

set_option maxRecDepth 100000 in
set_option maxHeartbeats 8000000 in
theorem handCopies_any (sv : Bool) (a1 : Option Addr) (len1 cap1 : Nat) (z1 : Nat → Nat → Int) (a2 : Option Addr) (len2 cap2 : Nat) (z2 : Nat → Nat → Int) (w : World)
    (hz1 : IsRows w a1 len1 2 z1) (hz2 : IsRows w a2 len2 2 z2) (hc1 : len1 ≤ cap1 ∧ cap1 ≤ maxLen ∧ (a1 = none → len1 = 0 ∧ cap1 = 0)) (hc2 : (a2 = none → len2 = 0 ∧ cap2 = 0) ∧ len2 * 16 ≤ 140737488351232) :
    Calls Try.prog 8 #[.bool sv, .slice a1 len1 cap1, .slice a2 len2 cap2] w fun e w' => e = .returned (.bool true) ∧ Below w.heap.size w w' := by
  obtain ⟨hlc, hcm, hnn⟩ := hc1
  obtain ⟨hnn2, hby⟩ := hc2
  have hlen := hz1.1
  have hlen2 := hz2.1
  unfold maxLen at hlen hcm hlen2
  have hok := ok_play (ok_start sv) z1 (min len1 60)
  obtain ⟨S, hSS⟩ : ∃ S, S = playN (HS.start sv) z1 (min len1 60) := ⟨_, rfl⟩
  obtain ⟨m, hm⟩ : ∃ m, m = min len1 60 := ⟨_, rfl⟩
  have hm1 : m ≤ len1 := by omega
  have hm60 : m ≤ 60 := by omega
  rw [← hSS] at hok
  go_enter Try.func8, Try.ntmps8
  go_wp2_with fail
  refine (played_any sv a1 len1 cap1 z1 w hz1).mono ?_; rintro e w1 ⟨h, rfl, hH, hh, bel⟩
  rw [← hSS] at hh
  go_wp2_with fail
  refine (played_any sv a1 len1 cap1 z1 w1 (hz1.keep bel)).mono ?_; rintro e w2 ⟨d, rfl, hD, hd, hb⟩
  rw [← hSS] at hd
  have hhd : h ≠ d := by have := hh.lt; omega
  replace hh := hh.keep hb
  replace bel := below_after bel hb
  clear hb
  go_wp2_with fail
  refine (copy_any h S _ hh hok).mono ?_; rintro e w3 ⟨rfl, hc, hb⟩
  obtain ⟨c, hcc⟩ : ∃ c, c = w2.heap.size := ⟨_, rfl⟩
  rw [← hcc] at hc ⊢
  have hhc : h ≠ c := by have := hh.lt; omega
  have hdc : d ≠ c := by have := hd.lt; omega
  have hCw : w.heap.size ≤ c := by have := bel.size; omega
  clear hcc
  replace hh := hh.keep hb
  replace hd := hd.keep hb
  replace bel := below_after bel hb
  clear hb
  obtain ⟨i0, hi, hzz0, hzz1, hzz2⟩ := info_parts Try.info27
  rw [← hm] at hSS
  have HM := hide (And.intro hSS hm)
  clear hSS hm
  go_upto_region 5 with (fail)
  go_cut [10, 24, 25, 26, 27, 28, 29, 30, 31, 32] (fun v _ _ _ _ _ _ _ _ _ wc => wc.ownsRow w3.heap.size 27 2 v (m + len2) (flat (glue m z1 z2) (m + len2)) ∧ Below w3.heap.size w3 wc)
  case first =>
    have hown0 : (w3.alloc (.cells #[] 27)).ownsRow w3.heap.size 27 2 (.slice (some ⟨w3.heap.size, 0, none⟩) 0 0) 0 [] := World.ownsRow_lit (e := 27) (size := 2) (base := w3.heap.size) w3 #[] 0 (Nat.le_refl _) (by unfold maxLen; omega) rfl
    have hb0 : Below w3.heap.size w3 (w3.alloc (.cells #[] 27)) := below_alloc1 w3 _
    cases a1 with
    | none =>
      obtain ⟨rfl, rfl⟩ := hnn rfl
      obtain rfl : m = 0 := by omega
      cases a2 with
      | none =>
        obtain ⟨rfl, rfl⟩ := hnn2 rfl
        go_wp2_with (at_builtin; refine wpList_append_own_none rfl _ _ 22 rfl w3.heap.size 27 i0 2 Try.underlying22 hi _ 0 [] rfl hown0 rfl ?_)
        go_meet
        case rel => exact ⟨hown0, hb0⟩
      | some ad2 =>
        go_wp2_with (at_builtin; first | refine wpList_append_own_none rfl _ _ 22 rfl w3.heap.size 27 i0 2 Try.underlying22 hi _ 0 [] rfl hown0 rfl ?_ | refine wpList_append_own _ rfl _ _ 22 rfl w3.heap.size 27 i0 _ 2 16 Try.underlying22 hi hzz0 hzz1 hzz2 rfl (by decide) _ 0 (flat z1 0) rfl hown0 ad2 len2 _ (flat z2 len2) rfl (flat_len z2 len2) (rows_news (hz2.keep (below_after bel hb0)) (Nat.le_refl _)) (flat_one z2 len2) (by unfold maxLen; omega) (by omega) hb0.size ?_)
        intro v2 wB hownB hgrowB _
        go_wp2_with fail
        go_meet
        case rel =>
          refine ⟨by rw [← flat_glue]; first | exact hownB | (rw [Nat.zero_add]; exact hownB), ?_⟩
          exact hb0.grown hgrowB hb0.size (fun k hk => (World.ownsRow.lt hown0 k hk).1)
    | some ad1 =>
      by_cases hle : (len1 : Int) ≤ 60
      · obtain rfl : m = len1 := by have := HM.out.2; omega
        have hle2 : ¬ (60 : Int) < (m : Int) := by omega
        go_wp2_with (at_builtin; go_loud (refine wpList_append_own _ rfl _ _ 22 rfl w3.heap.size 27 i0 _ 2 16 Try.underlying22 hi hzz0 hzz1 hzz2 rfl (by decide) _ 0 [] rfl hown0 ad1 m _ (flat z1 m) rfl (flat_len z1 m) (rows_news (hz1.keep (below_after bel hb0)) (by omega)) (flat_one z1 m) (by unfold maxLen; omega) (by omega) hb0.size ?_))
        intro v1 wA hownA hgrowA _
        have hbA : Below w3.heap.size w3 wA := hb0.grown hgrowA hb0.size (fun k hk => (World.ownsRow.lt hown0 k hk).1)
        try rw [Nat.zero_add] at hownA
        try rw [List.nil_append] at hownA
        cases a2 with
        | none =>
          obtain ⟨rfl, rfl⟩ := hnn2 rfl
          go_wp2_with (at_builtin; go_loud (refine wpList_append_own_none rfl _ _ 22 rfl w3.heap.size 27 i0 2 Try.underlying22 hi _ m (flat z1 m) rfl hownA rfl ?_))
          go_wp2_with fail
          go_meet
          case rel =>
            refine ⟨?_, hbA⟩
            rw [← flat_glue]
            have e0 : flat z2 0 = [] := rfl
            rw [e0, List.append_nil]
            exact hownA
        | some ad2 =>
          go_wp2_with (at_builtin; go_loud (refine wpList_append_own _ rfl _ _ 22 rfl w3.heap.size 27 i0 _ 2 16 Try.underlying22 hi hzz0 hzz1 hzz2 rfl (by decide) _ m (flat z1 m) rfl hownA ad2 len2 _ (flat z2 len2) rfl (flat_len z2 len2) (rows_news (hz2.keep (below_after bel hbA)) (Nat.le_refl _)) (flat_one z2 len2) (by unfold maxLen; omega) (by omega) (hbA).size ?_))
          intro v2 wB hownB hgrowB _
          go_wp2_with fail
          go_meet
          case rel =>
            refine ⟨by rw [← flat_glue]; first | exact hownB | (rw [Nat.zero_add]; exact hownB), ?_⟩
            exact (hbA).grown hgrowB (hbA).size (fun k hk => (World.ownsRow.lt hownA k hk).1)
      · obtain rfl : m = 60 := by have := HM.out.2; omega
        have hle2 : (60 : Int) < (len1 : Int) := by omega
        go_wp2_with (at_builtin; go_loud (refine wpList_append_own _ rfl _ _ 22 rfl w3.heap.size 27 i0 _ 2 16 Try.underlying22 hi hzz0 hzz1 hzz2 rfl (by decide) _ 0 [] rfl hown0 ad1 60 _ (flat z1 60) rfl (flat_len z1 60) (rows_news (hz1.keep (below_after bel hb0)) (by omega)) (flat_one z1 60) (by unfold maxLen; omega) (by omega) hb0.size ?_))
        intro v1 wA hownA hgrowA _
        have hbA : Below w3.heap.size w3 wA := hb0.grown hgrowA hb0.size (fun k hk => (World.ownsRow.lt hown0 k hk).1)
        try rw [Nat.zero_add] at hownA
        try rw [List.nil_append] at hownA
        cases a2 with
        | none =>
          obtain ⟨rfl, rfl⟩ := hnn2 rfl
          go_wp2_with (at_builtin; go_loud (refine wpList_append_own_none rfl _ _ 22 rfl w3.heap.size 27 i0 2 Try.underlying22 hi _ 60 (flat z1 60) rfl hownA rfl ?_))
          go_wp2_with fail
          go_meet
          case rel =>
            refine ⟨?_, hbA⟩
            rw [← flat_glue]
            have e0 : flat z2 0 = [] := rfl
            rw [e0, List.append_nil]
            exact hownA
        | some ad2 =>
          go_wp2_with (at_builtin; go_loud (refine wpList_append_own _ rfl _ _ 22 rfl w3.heap.size 27 i0 _ 2 16 Try.underlying22 hi hzz0 hzz1 hzz2 rfl (by decide) _ 60 (flat z1 60) rfl hownA ad2 len2 _ (flat z2 len2) rfl (flat_len z2 len2) (rows_news (hz2.keep (below_after bel hbA)) (Nat.le_refl _)) (flat_one z2 len2) (by unfold maxLen; omega) (by omega) (hbA).size ?_))
          intro v2 wB hownB hgrowB _
          go_wp2_with fail
          go_meet
          case rel =>
            refine ⟨by rw [← flat_glue]; first | exact hownB | (rw [Nat.zero_add]; exact hownB), ?_⟩
            exact (hbA).grown hgrowB (hbA).size (fun k hk => (World.ownsRow.lt hownA k hk).1)
  case rest =>
    obtain ⟨hown, hbc⟩ := hcut
    have hc3 := hc.lt
    replace hh := hh.keep hbc
    replace hd := hd.keep hbc
    replace hc := hc.keep hbc
    replace bel := below_after bel hbc
    obtain ⟨aR, cR, rfl, hzR, hRB⟩ := rows_own hown (inR_glue (fun i hi => hz1.inR i (by omega)) hz2.inR) (by unfold maxLen; omega)
    have hRc : ∀ g off, aR = some ⟨g, off, none⟩ → g ≠ c := fun g off e => by have := hRB g off e; omega
    clear hown hbc hRB hc3
    have e60 : (if (60 : Int) < (len1 : Int) then 60 else (len1 : Int)) = (m : Int) := by have := HM.out.2; split <;> omega
    go_wp2_with fail
    go_loopw [11] (CRel wc c m len2 S z2) (fun i _ => (len2 - (intOf i).toNat))
    case atStart => exact ⟨0, rfl, by omega, by omega, hc, Only.refl _ _⟩
    case round =>
      clear hc
      obtain ⟨k, rfl, hk, hk60, hc, ho⟩ := hrel
      have bel1 := ho.below bel hCw bel.size
      by_cases hlt : k < len2 ∧ k < 60 - m
      · obtain ⟨hlt, hlt60⟩ := hlt
        obtain ⟨bz, off, ha, hbz, c0, c1, ⟨lo0, hi0⟩, ⟨lo1, hi1⟩⟩ := hz2.row bel1 hlt
        subst ha
        have hokC := ok_play hok z2 k
        obtain ⟨C, hCC⟩ : ∃ C, C = playN S z2 k := ⟨_, rfl⟩
        have hC1 : playN S z2 (k + 1) = C.callS (z2 k 0 % 6) (z2 k 1 % 3) := by rw [hCC]; rfl
        rw [← hCC] at hc hokC
        have H := hide hC1
        clear hCC hC1
        generalize z2 k 0 = t at *
        generalize z2 k 1 = s at *
        go_wp2_with fail
        refine (call_any c C t s (t % 6) (s % 3) _ hc hokC lo0 hi0 lo1 hi1 rfl rfl).mono ?_; rintro e w4 ⟨rfl, hc1, ho1⟩
        go_wp2_with fail
        go_roundw
        case rel => exact ⟨k + 1, by go_num, by omega, by omega, by rw [H.out]; exact hc1, ho.trans ho1⟩
        case measure => simp [intOf]; omega
      · have hkk : min (m + len2) 60 = m + k := by omega
        have hlen12 : m + len2 ≤ 9223372036854775807 := by omega
        have hokC := ok_play hok z2 k
        obtain ⟨C, hCC⟩ : ∃ C, C = playN S z2 k := ⟨_, rfl⟩
        have hpl : playN (HS.start sv) (glue m z1 z2) (min (m + len2) 60) = C := by rw [hkk, play_glue, hCC, HM.out.1]
        rw [← hCC] at hc hokC
        have cP := fun W (hz : IsRows W aR (m + len2) 2 (glue m z1 z2)) => played_any sv aR (m + len2) cR (glue m z1 z2) W hz
        rw [hpl] at cP
        replace cP := hide cP
        have hzr := hzR.away ho hRc
        replace hh := hh.away ho hhc
        replace hd := hd.away ho hdc
        clear hkk hCC hpl hzR ho
        by_cases h1 : k < len2
        all_goals
          go_wp2_with fail
          try rw [show decide ((k : Int) < 60 - (m : Int)) = false by rw [decide_eq_false_iff_not]; omega]
          refine (cP.out wr hzr).mono ?_; rintro e w5 ⟨b, rfl, hB, hb, hbb⟩
          have hh1 := hh.keep hbb
          have hd1 := hd.keep hbb
          have hc1 := hc.keep hbb
          have bel2 := below_after bel1 hbb
          clear hh hd hc hbb bel1 hzr cP
          go_wp2_with fail
          go_loopw [13] (FRel w h d c b S C) (fun i _ => (3 - intOf i).toNat)
          case atStart => exact ⟨0, rfl, by omega, by omega, hh1, hd1, hc1, hb, bel2⟩
          case round =>
            clear hh1 hd1 hc1 hb bel2
            obtain ⟨x, rfl, x0, x3, hh1, hd1, hc1, hb, bel2⟩ := hrel
            by_cases hx : x < 3
            · obtain ⟨L, hL⟩ : ∃ L, S.lives x = L := ⟨_, rfl⟩
              obtain ⟨M, hM⟩ : ∃ M, S.has x = M := ⟨_, rfl⟩
              obtain ⟨N, hN⟩ : ∃ N, C.lives x = N := ⟨_, rfl⟩
              obtain ⟨O, hO⟩ : ∃ O, C.has x = O := ⟨_, rfl⟩
              have cL := fun W c (h : IsHand W c S) => (lives_any c S x W h hok)
              have cM := fun W c (h : IsHand W c S) => (has_any c S x W h hok)
              have cN := fun W c (h : IsHand W c C) => (lives_any c C x W h hokC)
              have cO := fun W c (h : IsHand W c C) => (has_any c C x W h hokC)
              rw [hL] at cL
              rw [hM] at cM
              rw [hN] at cN
              rw [hO] at cO
              replace cL := hide cL
              replace cM := hide cM
              replace cN := hide cN
              replace cO := hide cO
              clear hL hM hN hO
              go_wp2_with fail
              refine (cL.out _ _ hh1).mono ?_; rintro e w' ⟨rfl, rfl⟩
              go_wp2_with fail
              refine (cL.out _ _ hd1).mono ?_; rintro e w' ⟨rfl, rfl⟩
              cases L
              all_goals
                go_wp2_with fail
                refine (cN.out _ _ hc1).mono ?_; rintro e w' ⟨rfl, rfl⟩
                go_wp2_with fail
                refine (cN.out _ _ hb).mono ?_; rintro e w' ⟨rfl, rfl⟩
                cases N
                all_goals
                  go_wp2_with fail
                  refine (cM.out _ _ hh1).mono ?_; rintro e w' ⟨rfl, rfl⟩
                  go_wp2_with fail
                  refine (cM.out _ _ hd1).mono ?_; rintro e w' ⟨rfl, rfl⟩
                  cases M
                  all_goals
                    go_wp2_with fail
                    refine (cO.out _ _ hc1).mono ?_; rintro e w' ⟨rfl, rfl⟩
                    go_wp2_with fail
                    refine (cO.out _ _ hb).mono ?_; rintro e w' ⟨rfl, rfl⟩
                    cases O
                    all_goals
                      go_wp2_with fail
                      go_roundw
                      case rel => exact ⟨x + 1, rfl, by omega, by omega, hh1, hd1, hc1, hb, bel2⟩
                      case measure => simp [intOf]; omega
            · obtain rfl : x = 3 := by omega
              obtain ⟨L, hL⟩ : ∃ L, S.v = L := ⟨_, rfl⟩
              obtain ⟨M, hM⟩ : ∃ M, S.sure = M := ⟨_, rfl⟩
              obtain ⟨N, hN⟩ : ∃ N, C.v = N := ⟨_, rfl⟩
              obtain ⟨O, hO⟩ : ∃ O, C.sure = O := ⟨_, rfl⟩
              obtain ⟨U, hU⟩ : ∃ U, C.c = U := ⟨_, rfl⟩
              have cL := fun W c (h : IsHand W c S) => (valid_any c S W h hok)
              have cM := fun W c (h : IsHand W c S) => (sure_any c S W h hok)
              have cN := fun W c (h : IsHand W c C) => (valid_any c C W h hokC)
              have cO := fun W c (h : IsHand W c C) => (sure_any c C W h hokC)
              have cU := fun W c (h : IsHand W c C) => (confirmed_any c C W h hokC)
              rw [hL] at cL
              rw [hM] at cM
              rw [hN] at cN
              rw [hO] at cO
              rw [hU] at cU
              replace cL := hide cL
              replace cM := hide cM
              replace cN := hide cN
              replace cO := hide cO
              replace cU := hide cU
              clear hL hM hN hO hU
              go_wp2_with fail
              refine (cL.out _ _ hh1).mono ?_; rintro e w' ⟨rfl, rfl⟩
              go_wp2_with fail
              refine (cL.out _ _ hd1).mono ?_; rintro e w' ⟨rfl, rfl⟩
              cases L
              all_goals
                go_wp2_with fail
                refine (cM.out _ _ hh1).mono ?_; rintro e w' ⟨rfl, rfl⟩
                go_wp2_with fail
                refine (cM.out _ _ hd1).mono ?_; rintro e w' ⟨rfl, rfl⟩
                cases M
                all_goals
                  go_wp2_with fail
                  refine (cN.out _ _ hc1).mono ?_; rintro e w' ⟨rfl, rfl⟩
                  go_wp2_with fail
                  refine (cN.out _ _ hb).mono ?_; rintro e w' ⟨rfl, rfl⟩
                  cases N
                  all_goals
                    go_wp2_with fail
                    refine (cO.out _ _ hc1).mono ?_; rintro e w' ⟨rfl, rfl⟩
                    go_wp2_with fail
                    refine (cO.out _ _ hb).mono ?_; rintro e w' ⟨rfl, rfl⟩
                    cases O
                    all_goals
                      go_wp2_with fail
                      refine (cU.out _ _ hc1).mono ?_; rintro e w' ⟨rfl, rfl⟩
                      go_wp2_with fail
                      refine (cU.out _ _ hb).mono ?_; rintro e w' ⟨rfl, rfl⟩
                      cases U
                      all_goals
                        go_wp2_with fail
                        refine (works_any _).mono ?_; rintro e wx ⟨rfl, hbx⟩
                        go_wp2_with fail
                        go_ret
                        exact ⟨rfl, below_after bel2 hbx⟩
end Go.Proofs.Ytkhjfknmjbffdaa
