/-
  The walk of EventWrites.
-/
import Derived.Test.YtjhkgoppopfoaaaDoorEopen
import Derived.Test.YtjhkgoppopfoaaaDoorEvi
import Derived.Laws.AppendOwnNone
import Derived.Lib.QuietBelow
namespace Go.Proofs.YtjhkgoppopfoaaaDoor
open Go.RowKit Go.Lib Go.Maps
set_option linter.unusedVariables false
set_option linter.unusedSimpArgs false

/-- The cells of a list's elements, as append takes them. -/
theorem evs_news {w : World} {ad : Addr} {len : Nat} {z : Nat → Nat → Int} (h : IsEvs w (some ad) len 4 z) (k : Nat) (hk : k ≤ len) : ∀ j u, (flatE (evs z k))[j]? = some u → w.cell? (ad.add j) = some u := by
  intro j u hu
  have hj : j < k * 4 := by
    rcases Nat.lt_or_ge j (k * 4) with h | h
    · exact h
    · rw [List.getElem?_eq_none (by rw [flatE_len, evs_len]; exact h)] at hu; cases hu
  rcases h.2 with h0 | ⟨b, off, ha, hc⟩
  · omega
  · simp only [Option.some.injEq] at ha
    subst ha
    have hq : j / 4 < k := by omega
    have hr : j % 4 < 4 := Nat.mod_lt _ (by decide)
    have he : (evs z k)[j / 4]? = some (evAt z (j / 4)) := by simp [evs, hq]
    have hg := flatE_get (evs z k) (j / 4) (j % 4) _ he hr
    have hjj : j / 4 * 4 + j % 4 = j := by omega
    rw [hjj, hu] at hg
    obtain rfl := Option.some.inj hg
    have h1 := (hc (j / 4) (by omega) (j % 4) hr).1
    rw [hjj] at h1
    rw [Addr.add_lit, h1]
    have hat : ∀ r, r < 4 → z (j / 4) r = (evAt z (j / 4)).at r := by
      intro r hr
      obtain rfl | rfl | rfl | rfl : r = 0 ∨ r = 1 ∨ r = 2 ∨ r = 3 := by omega
      all_goals rfl
    rw [hat _ hr]
theorem evs_wf {w : World} {a : Option Addr} {len : Nat} {z : Nat → Nat → Int} (h : IsEvs w a len 4 z) {k : Nat} (hk : k ≤ len) : ∀ e ∈ evs z k, e.wf := by
  intro e he
  simp only [evs, List.mem_map, List.mem_range] at he
  obtain ⟨i, hi, rfl⟩ := he
  obtain ⟨b, off, -, -, -, -, -, hw⟩ := row_cells h (i := i) (by omega)
  exact hw
theorem textR_fun {z : Nat → Nat → Int} {n : Nat} {s s' : Bs} {er er' : Int} (h : TextR z n s er) (h' : TextR z n s' er') : s = s' ∧ er = er' := by
  rcases h with ⟨h1, h2, h3⟩ | ⟨h1, h2, h3⟩ <;> rcases h' with ⟨k1, k2, k3⟩ | ⟨k1, k2, k3⟩
  · exact ⟨h2.trans k2.symm, h3.trans k3.symm⟩
  · exact absurd h1 k1
  · exact absurd k1 h1
  · exact ⟨h2.trans k2.symm, h3.trans k3.symm⟩
theorem textR_evs {z y : Nat → Nat → Int} {n : Nat} {s : Bs} {er : Int} (he : evs z n = evs y n) (h : TextR z n s er) : TextR y n s er := by
  have ho : OkN z n ↔ OkN y n := by rw [okN_evs, okN_evs, he]
  rcases h with ⟨h1, h2, h3⟩ | ⟨h1, h2, h3⟩
  · exact Or.inl ⟨ho.1 h1, by rw [h2, linesT_evs, linesT_evs, he], h3⟩
  · exact Or.inr ⟨fun h => h1 (ho.2 h), h2, h3⟩
theorem textR_ex (z : Nat → Nat → Int) (n : Nat) : ∃ s er, TextR z n s er := by
  by_cases h : OkN z n
  · exact ⟨_, _, Or.inl ⟨h, rfl, rfl⟩⟩
  · exact ⟨_, _, Or.inr ⟨h, rfl, rfl⟩⟩
theorem row_at {w : World} {b off len : Nat} {z : Nat → Nat → Int} (h : IsEvs w (some ⟨b, off, none⟩) len 4 z) {i : Nat} (hi : i < len) :
    w.cell? ⟨b, off + i * 4, none⟩ = some (.int .i64 (z i 0)) ∧ w.cell? ⟨b, off + i * 4 + 1, none⟩ = some (.int .i64 (z i 1)) ∧ w.cell? ⟨b, off + i * 4 + 2, none⟩ = some (.int .i64 (z i 2)) ∧ w.cell? ⟨b, off + i * 4 + 3, none⟩ = some (.int .i64 (z i 3)) := by
  obtain ⟨b', off', hab, e0, e1, e2, e3, -⟩ := row_cells h hi
  simp only [Option.some.injEq, Addr.mk.injEq, and_true] at hab
  obtain ⟨rfl, rfl⟩ := hab
  exact ⟨e0, e1, e2, e3⟩
structure WrAt (w wr : World) (a a5 : Option Addr) (m : Nat) (z : Nat → Nat → Int) (es : List Ev) : Prop where
  lst : IsEvs wr a m 4 z
  cpy : IsEvs wr a5 m 4 (zOf es)
  bel : Below w.heap.size w wr
theorem WrAt.keep {w wr w' : World} {a a5 : Option Addr} {m : Nat} {z : Nat → Nat → Int} {es : List Ev} (h : WrAt w wr a a5 m z es) (hb : Below wr.heap.size wr w') : WrAt w w' a a5 m z es := ⟨h.lst.keep hb, h.cpy.keep hb, below_after h.bel hb⟩
def WrRel (w : World) (a a5 : Option Addr) (m : Nat) (z : Nat → Nat → Int) (es : List Ev) (i : Value) (wr : World) : Prop := ∃ k : Nat, i = .int .i64 (k : Int) ∧ k ≤ m ∧ WrAt w wr a a5 m z es
set_option maxRecDepth 100000 in
set_option maxHeartbeats 8000000 in
theorem eventWrites_any (a : Option Addr) (len cap : Nat) (z : Nat → Nat → Int) (kind : Int) (w : World) (g : Gd w) (h : IsEvs w a len 4 z) (hf : SlF a len cap) : Calls Tryd.prog 9 #[.slice a len cap, .int .i64 kind] w fun e w' => e = .returned (.bool true) ∧ Below w.heap.size w w' := by
  obtain ⟨i0, hi, hz0, hz1, hz2⟩ := info_parts Tryd.info52
  obtain ⟨hlc, hcm, hnn⟩ := hf
  have hcm' : cap ≤ 9223372036854775807 := Nat.le_trans hcm (by decide)
  go_enter Tryd.func9, Tryd.ntmps9
  go_upto_region 1 with (fail)
  go_cut [0, 15, 16, 17, 18, 19] (fun v _ _ _ _ _ wc => ∃ m, v = .slice a m cap ∧ m ≤ len ∧ m ≤ 200 ∧ wc = w)
  case first =>
    cases a with
    | none =>
      obtain ⟨rfl, rfl⟩ := hnn rfl
      go_wp2_with fail
      go_meet
      exact ⟨0, rfl, by omega, by omega, rfl⟩
    | some ad =>
      go_wp2_with fail
      go_meet
      exact ⟨(min (len : Int) 200).toNat, rfl, by omega, by omega, rfl⟩
  case rest =>
  obtain ⟨m, rfl, hml, hm2, hww⟩ := hcut
  rw [hww]
  clear hww
  replace h := h.take hml
  obtain ⟨es, hes⟩ : ∃ es, evs z m = es := ⟨_, rfl⟩
  have hel : es.length = m := by rw [← hes, evs_len]
  have hwf := evs_wf h (Nat.le_refl m)
  rw [hes] at hwf
  have hzz : evs (zOf es) m = evs z m := by rw [← hel, evs_zOf, hel, hes]
  have HW := hide (And.intro hwf hzz)
  have hmc : m ≤ cap := by omega
  go_upto_region 3 with (fail)
  go_cut [5, 20, 21, 22] (fun v _ _ _ wd => ∃ a5 c5, v = .slice a5 m c5 ∧ IsEvs wd a5 m 4 (zOf es) ∧ Below w.heap.size w wd)
  case first =>
    cases a with
    | none =>
      obtain ⟨h0, rfl⟩ := hnn rfl
      obtain rfl : m = 0 := by omega
      go_wp2_with (at_builtin; refine wpList_append_own_none rfl _ _ 41 rfl w.heap.size 52 i0 4 Tryd.underlying41 hi _ 0 [] rfl (World.ownsRow_nil w _ _ _) rfl ?_)
      go_meet
      exact ⟨none, 0, rfl, evs_nil _ _, Below.refl _ _⟩
    | some ad =>
      have hnw := evs_news h m (Nat.le_refl m)
      rw [hes] at hnw
      have hfl : (flatE es).length = m * 4 := by rw [flatE_len, hel]
      clear hes hel hwf hzz
      go_wp2_with (at_builtin; refine wpList_append_own _ rfl _ _ 41 rfl w.heap.size 52 i0 (.agg #[.int .i64 0, .int .i64 0, .int .i64 0, .int .i64 0]) 4 32 Tryd.underlying41 hi hz0 hz1 hz2 rfl (by decide) _ 0 [] rfl (World.ownsRow_nil w _ _ _) ad m cap (flatE es) rfl hfl hnw flatE_one ?c3 ?c4 ?c5 ?_)
      case c3 => unfold maxLen; omega
      case c4 => omega
      case c5 => exact Nat.le_refl _
      intro v' w1 hown' hgrow _
      try rw [Nat.zero_add] at hown'
      try rw [List.nil_append] at hown'
      obtain ⟨_, a5, c5, rfl, hE⟩ := evs_of_own hown' HW.out.1
      go_wp2_with fail
      go_meet
      exact ⟨a5, c5, rfl, hE, (Below.refl _ w).grown hgrow (Nat.le_refl _) (fun k hk => by cases hk)⟩
  case rest =>
  obtain ⟨a5, c5, rfl, hE5, hb5⟩ := hcut
  have hA : WrAt w wc a a5 m z es := ⟨h.keep hb5, hE5, hb5⟩
  clear h hE5 hb5 hi hz0 hz1 hz2 hes hwf hzz hnn hlc hcm hcm' hmc hml
  go_upto_region 4 with (fail)
  go_wp2_with fail
  go_loopw [6] (WrRel w a a5 m z es) (fun i _ => (m - intOf i).toNat)
  case atStart => exact ⟨0, rfl, Nat.zero_le _, hA⟩
  case round =>
    clear hA
    obtain ⟨k, rfl, hk, hA⟩ := hrel
    have gr := g.keep hA.bel
    by_cases hlt : k < m
    · obtain ⟨ab, off, rfl, e0, e1, e2, e3, hwf⟩ := row_cells hA.lst hlt
      have hkl : (k : Int) < (m : Int) := by omega
      have hk0 : (0 : Int) ≤ (k : Int) := by omega
      have C1 : Hid (∀ wq, Calls Tryd.prog 30 #[(evAt z k).val] wq fun x w' => x = .returned (.int .i64 (evAt z k).err) ∧ Below wq.heap.size wq w') := hide (fun wq => echeck_any _ wq hwf)
      have C2 : Hid (∀ wq, Calls Tryd.prog 33 #[(evAt z k).val] wq fun x w' => x = .returned (.int .i64 (evAt z k).err) ∧ Below wq.heap.size wq w') := hide (fun wq => rcheck22_any _ wq)
      by_cases hok : (evAt z k).ok
      · have L1 : Hid (∀ wq, Gd wq → _) := hide (fun wq g => line_yes (evAt z k) wq g hwf hok)
        have L2 := hide (fun wq => rline_yes (evAt z k) wq hok)
        obtain ⟨LE, hLE⟩ : ∃ LE, lineE (evAt z k) = LE := ⟨_, rfl⟩
        rw [hLE] at L1 L2
        obtain ⟨er, her⟩ : ∃ er, (evAt z k).err = er := ⟨_, rfl⟩
        rw [her] at C1 C2
        have HA := hide hA
        clear hLE her hok hwf hA
        simp only [Ev.val, Ev.cells, evAt] at C1 C2 L1 L2
        go_wp2_with fail
        refine (L1.out _ gr).mono ?_; rintro x w1 ⟨rfl, hb1⟩
        have hA1 := HA.out.keep hb1
        obtain ⟨e0, e1, e2, e3⟩ := row_at hA1.lst hlt
        clear hb1
        go_wp2_with fail
        refine (L2.out _).mono ?_; rintro x w2 ⟨rfl, hb2⟩
        have hA2 := hA1.keep hb2
        obtain ⟨e0, e1, e2, e3⟩ := row_at hA2.lst hlt
        have e0 := cell_regrown e0
        have e1 := cell_regrown e1
        have e2 := cell_regrown e2
        have e3 := cell_regrown e3
        clear hA1 hb2 L1 L2
        go_upto_region 9 with (fail)
        refine wp_region_quiet_below (by kernel_rfl) (by kernel_rfl) ?_
        repeat (go_big_quiet_step (first | (go_at_call 30; exact Calls.regrown_of (C1.out _)) | (go_at_call 33; exact Calls.regrown_of (C2.out _))))
        refine wpQuiet_nil ?_
        intro w3 hw3
        obtain ⟨⟨dq, osq⟩, hw4⟩ := hw3
        have hA3 := hA2.keep (w' := w3) (by rw [hw4]; exact below_regrown w2 dq osq)
        clear hw4 e0 e1 e2 e3 hA2 C1 C2
        go_wp2_with fail
        go_roundw
        case rel => exact ⟨k + 1, by go_num, by omega, hA3⟩
        case measure => simp [intOf]; omega
      · have L1 := hide (fun wq => line_no (evAt z k) wq hwf hok)
        have L2 := hide (fun wq => rline_no (evAt z k) wq hok)
        obtain ⟨er, her⟩ : ∃ er, (evAt z k).err = er := ⟨_, rfl⟩
        rw [her] at C1 C2
        have HA := hide hA
        clear her hok hwf hA
        simp only [Ev.val, Ev.cells, evAt] at C1 C2 L1 L2
        go_wp2_with fail
        refine (L1.out _).mono ?_; rintro x w1 ⟨rfl, hb1⟩
        have hA1 := HA.out.keep hb1
        obtain ⟨e0, e1, e2, e3⟩ := row_at hA1.lst hlt
        clear hb1
        go_wp2_with fail
        refine (L2.out _).mono ?_; rintro x w2 ⟨rfl, hb2⟩
        have hA2 := hA1.keep hb2
        obtain ⟨e0, e1, e2, e3⟩ := row_at hA2.lst hlt
        have e0 := cell_regrown e0
        have e1 := cell_regrown e1
        have e2 := cell_regrown e2
        have e3 := cell_regrown e3
        clear hA1 hb2 L1 L2
        go_upto_region 9 with (fail)
        refine wp_region_quiet_below (by kernel_rfl) (by kernel_rfl) ?_
        repeat (go_big_quiet_step (first | (go_at_call 30; exact Calls.regrown_of (C1.out _)) | (go_at_call 33; exact Calls.regrown_of (C2.out _))))
        refine wpQuiet_nil ?_
        intro w3 hw3
        obtain ⟨⟨dq, osq⟩, hw4⟩ := hw3
        have hA3 := hA2.keep (w' := w3) (by rw [hw4]; exact below_regrown w2 dq osq)
        clear hw4 e0 e1 e2 e3 hA2 C1 C2
        go_wp2_with fail
        go_roundw
        case rel => exact ⟨k + 1, by go_num, by omega, hA3⟩
        case measure => simp [intOf]; omega
    · obtain rfl : k = m := by omega
      obtain ⟨S, E, hR⟩ := textR_ex z k
      have hR2 := textR_evs HW.out.2.symm hR
      have HR := hide (And.intro hR hR2)
      have C1 := hide (fun wq kd (h : IsEvs wq a k 4 z) => ecount_any a k cap z kd wq h)
      have C2 := hide (fun wq kd (h : IsEvs wq a k 4 z) => rcount22_any a k cap z kd wq h)
      have HA := hide hA
      obtain ⟨N, hN⟩ : ∃ N, countN z kind k = N := ⟨_, rfl⟩
      have HN := hide hN
      clear hR hR2 hA hel hN
      go_wp2_with fail
      refine (etext_any a5 k c5 (zOf es) _ gr HA.out.cpy (by omega)).mono ?_
      rintro x w1 ⟨⟨s1, r1, rfl, ht⟩, hb1⟩
      obtain ⟨rfl, rfl⟩ := textR_fun ht HR.out.2
      have hA1 := HA.out.keep hb1
      clear ht hb1
      go_wp2_with fail
      refine (rtext22_any a k cap z _ hA1.lst (by omega)).mono ?_
      rintro x w2 ⟨⟨s2, r2, rfl, ht⟩, hb2⟩
      obtain ⟨rfl, rfl⟩ := textR_fun ht HR.out.1
      have hA2 := hA1.keep hb2
      clear ht hb2 hA1
      go_wp2_with fail
      refine (equal_yes a5 a k c5 cap (zOf es) z _ hA2.cpy hA2.lst (evs_at HW.out.2)).mono ?_; rintro x w3 ⟨rfl, hb3⟩
      have hA3 := hA2.keep hb3
      clear hb3 hA2
      go_wp2_with fail
      refine (C1.out _ kind hA3.lst).mono ?_; rintro x w4 ⟨rfl, hb4⟩
      have hA4 := hA3.keep hb4
      rw [HN.out]
      clear hb4 hA3
      go_wp2_with fail
      refine (C2.out _ kind hA4.lst).mono ?_; rintro x w5 ⟨rfl, hb5⟩
      have hA5 := hA4.keep hb5
      rw [HN.out]
      clear hb5 hA4
      go_wp2_with fail
      refine (works22_any _ (g.keep hA5.bel)).mono ?_; rintro x w6 ⟨rfl, hb6⟩
      go_wp2_with fail
      go_ret
      exact ⟨rfl, below_after hA5.bel hb6⟩
end Go.Proofs.YtjhkgoppopfoaaaDoor
