/-
  The walk of HandPlays: what a handshake answers and is, call by call, is what the document says: it answers true whatever the calls, and turns nothing that was there.
-/
import Derived.Test.YtkhjfknmjbffdaaDoes
namespace Go.Proofs.Ytkhjfknmjbffdaa
open Go.RowKit Go.Sort
set_option linter.unusedVariables false
set_option linter.unusedSimpArgs false
theorem does_any {w : World} {B b m : Nat} {S : HS} (hh : IsHand w b S) (hr : IsRef w B m S) (hbB : b < B) (hok : S.ok) (t s q : Int) (t0 : -9223372036854775808 ≤ t) (t1 : t ≤ 9223372036854775807) (hq : t % 7 = q) (h6 : q ≠ 6) :
    Calls Try.prog 28 #[.pointer (some ⟨b, 0, none⟩), .pointer (some ⟨m, 0, none⟩), .agg #[.int .i64 t, .int .i64 s]] w (DidB B b m (S.callE q s) (S.callS q s) w) := by
  obtain rfl | rfl | rfl | rfl | rfl | rfl : q = 0 ∨ q = 1 ∨ q = 2 ∨ q = 3 ∨ q = 4 ∨ q = 5 := by omega
  · exact does_0 hh hr hbB hok t s t0 t1 hq
  · exact does_1 hh hr hbB hok t s t0 t1 hq
  · exact does_2 hh hr hbB hok t s t0 t1 hq
  · exact does_3 hh hr hbB hok t s t0 t1 hq
  · exact does_4 hh hr hbB hok t s t0 t1 hq
  · exact does_5 hh hr hbB hok t s t0 t1 hq
theorem same_ref {w : World} {B b m : Nat} {S : HS} (hh : IsHand w b S) (hr : IsRef w B m S) (hok : S.ok) (s : Int) :
    Calls Try.prog 23 #[.pointer (some ⟨b, 0, none⟩), .pointer (some ⟨m, 0, none⟩), .int .i64 s] w fun e w' => e = .returned (.bool true) ∧ Below w.heap.size w w' := by
  obtain ⟨vK, vG, K, G, hr⟩ := hr
  exact same_any hh hr hok s
theorem rcopy_ref {w : World} {B m : Nat} {S : HS} (hr : IsRef w B m S) : Calls Try.prog 25 #[.pointer (some ⟨m, 0, none⟩)] w fun e w' => ∃ m', e = .returned (.pointer (some ⟨m', 0, none⟩)) ∧ IsRef w' w.heap.size m' S ∧ Below w.heap.size w w' := by
  obtain ⟨vK, vG, K, G, hr⟩ := hr
  exact rcopy_any hr
def XRel (w : World) (len : Nat) (v5 v6 i : Value) (wr : World) : Prop :=
  ∃ (k b m B : Nat) (S : HS), v5 = .pointer (some ⟨b, 0, none⟩) ∧ v6 = .pointer (some ⟨m, 0, none⟩) ∧ i = .int .i64 (k : Int) ∧ k ≤ len ∧ k ≤ 60 ∧ S.ok ∧ IsHand wr b S ∧ IsRef wr B m S ∧ b < B ∧ w.heap.size ≤ b ∧ Below w.heap.size w wr
def YRel (w : World) (b b' m' B' : Nat) (S : HS) (i : Value) (wr : World) : Prop :=
  ∃ (x : Int) (S0 : HS), i = .int .i64 x ∧ 0 ≤ x ∧ x ≤ 3 ∧ S0.ok ∧ IsHand wr b S0 ∧ IsHand wr b' S ∧ IsRef wr B' m' S ∧ Below w.heap.size w wr
set_option maxRecDepth 100000 in
set_option maxHeartbeats 8000000 in
theorem handPlays_any (sv : Bool) (a : Option Addr) (len cap : Nat) (z : Nat → Nat → Int) (w : World) (hz : IsRows w a len 2 z) :
    Calls Try.prog 6 #[.bool sv, .slice a len cap] w fun e w' => e = .returned (.bool true) ∧ Below w.heap.size w w' := by
  have hlen := hz.1
  unfold maxLen at hlen
  go_enter Try.func6, Try.ntmps6
  go_wp2_with fail
  refine (new_any sv w).mono ?_; rintro e w1 ⟨rfl, hh, bel⟩
  obtain ⟨b, hbb⟩ : ∃ b, b = w.heap.size := ⟨_, rfl⟩
  rw [← hbb] at hh ⊢
  have hB : w.heap.size ≤ b := by omega
  have hb1 := hh.lt
  clear hbb
  have hok := ok_start sv
  go_wp2_with fail
  refine (rnew_any sv w1).mono ?_; rintro e w2 ⟨m, rfl, hr, hb⟩
  replace hh := hh.keep hb
  replace bel := below_after bel hb
  clear hb
  go_wp2_with fail
  refine (same_ref hh hr hok 0).mono ?_; rintro e w3 ⟨rfl, hb⟩
  replace hh := hh.keep hb
  replace hr := hr.keep hb
  replace bel := below_after bel hb
  clear hb
  go_wp2_with fail
  go_loopw [5, 6, 7] (XRel w len) (fun _ _ i _ => (len - (intOf i).toNat))
  case atStart => exact ⟨0, b, m, _, _, rfl, rfl, rfl, by omega, by omega, hok, hh, hr, hb1, hB, bel⟩
  case round =>
    clear hh hr bel hok hB hb1
    obtain ⟨k, b, m, B, S, rfl, rfl, rfl, hk, hk60, hok, hh, hr, hbB, hB, bel⟩ := hrel
    by_cases hlt : k < len ∧ k < 60
    · obtain ⟨hlt, hlt60⟩ := hlt
      have hrow := fun W (bl : Below w.heap.size w W) => hz.row bl hlt
      obtain ⟨bz, off, ha, hbz, c0, c1, ⟨lo0, hi0⟩, ⟨lo1, hi1⟩⟩ := hz.row bel hlt
      subst ha
      have hcell : ∀ W, Below w.heap.size w W → W.cell? ⟨bz, off + k * 2 + 1, none⟩ = some (.int .i64 (z k 1)) := fun W bl => by
        obtain ⟨bz', off', ha', _, _, c1', _⟩ := hrow W bl
        cases ha'
        exact c1'
      replace hcell := hide hcell
      clear hrow
      generalize z k 0 = t at *
      generalize z k 1 = s at *
      obtain ⟨q, hq⟩ : ∃ q, t % 7 = q := ⟨_, rfl⟩
      have HQ := hide hq
      clear hq
      go_wp2_with fail
      refine (bring_eq t 7 q _ lo0 hi0 (by omega) (by omega) HQ.out).mono ?_; rintro e w' ⟨rfl, rfl⟩
      by_cases h6 : q = 6
      · subst h6
        go_wp2_with fail
        refine (copy_any b S _ hh hok).mono ?_; rintro e w4 ⟨rfl, hc, hb⟩
        obtain ⟨b', hbb⟩ : ∃ b', b' = wr.heap.size := ⟨_, rfl⟩
        rw [← hbb] at hc ⊢
        have hbl : b < b' := by have := hh.lt; omega
        have hne : b ≠ b' := by omega
        have hB' : w.heap.size ≤ b' := by have := bel.size; omega
        have hlt' := hc.lt
        clear hbb c0 c1
        replace hh := hh.keep hb
        replace hr := hr.keep hb
        replace bel := below_after bel hb
        clear hb
        go_wp2_with fail
        refine (rcopy_ref hr).mono ?_; rintro e w5 ⟨m', rfl, hr', hb⟩
        replace hh := hh.keep hb
        replace hc := hc.keep hb
        replace bel := below_after bel hb
        clear hb hr
        obtain ⟨B', hBB⟩ : ∃ B', B' = w4.heap.size := ⟨_, rfl⟩
        rw [← hBB] at hr' hlt'
        clear hBB
        go_wp2_with fail
        go_loopw [9] (YRel w b b' m' B' S) (fun i _ => (3 - intOf i).toNat)
        case atStart => exact ⟨0, S, rfl, by omega, by omega, hok, hh, hc, hr', bel⟩
        case round =>
          clear hh hc hr' bel
          obtain ⟨x, S0, rfl, x0, x3, hok0, hh, hc, hr', bel⟩ := hrel
          by_cases hx : x < 3
          · go_wp2_with fail
            refine (keys_any b S0 x _ hh hok0).mono ?_; rintro e w6 ⟨rfl, hh1, ho⟩
            have hc1 := hc.away ho hne.symm
            have hr1 := hr'.away ho (by omega)
            have bel1 := ho.below bel hB bel.size
            go_wp2_with fail
            go_roundw
            case rel => exact ⟨x + 1, _, rfl, by omega, by omega, ok_keys hok0 x, hh1, hc1, hr1, bel1⟩
            case measure => simp [intOf]; omega
          · obtain rfl : x = 3 := by omega
            go_wp2_with fail
            refine (confirm_any b S0 _ hh hok0).mono ?_; rintro e w6 ⟨rfl, hh1, ho⟩
            have hc1 := hc.away ho hne.symm
            have hr1 := hr'.away ho (by omega)
            have bel1 := ho.below bel hB bel.size
            have c1 := hcell.out _ bel1
            clear hc hr' bel hh ho
            go_wp2_with fail
            refine (same_ref hc1 hr1 hok s).mono ?_; rintro e w7 ⟨rfl, hb⟩
            replace hc1 := hc1.keep hb
            replace hr1 := hr1.keep hb
            replace bel1 := below_after bel1 hb
            go_wp2_with fail
            go_roundw
            case rel => exact ⟨k + 1, b', m', B', S, rfl, rfl, by go_num, by omega, by omega, hok, hc1, hr1, hlt', hB', bel1⟩
            case measure => simp [intOf]; omega
      · obtain ⟨E, hE⟩ : ∃ E, S.callE q s = E := ⟨_, rfl⟩
        have hdo := does_any hh hr hbB hok t s q lo0 hi0 HQ.out h6
        rw [hE] at hdo
        have hok1 := ok_call hok q s
        have hEE : (E != E) = false := by simp
        clear hE
        go_wp2_with fail
        refine hdo.mono ?_; rintro e w4 ⟨rfl, hh1, hr1, hb1⟩
        have bel1 := bel.trans (hb1.mono hB)
        have c1' := hcell.out _ bel1
        clear c0 c1 hh hr bel hb1 hdo
        go_wp2_with fail
        refine (same_ref hh1 hr1 hok1 s).mono ?_; rintro e w7 ⟨rfl, hb⟩
        replace hh1 := hh1.keep hb
        replace hr1 := hr1.keep hb
        replace bel1 := below_after bel1 hb
        go_wp2_with fail
        go_roundw
        case rel => exact ⟨k + 1, b, m, B, _, rfl, rfl, by go_num, by omega, by omega, hok1, hh1, hr1, hbB, hB, bel1⟩
        case measure => simp [intOf]; omega
    · by_cases h1 : k < len
      · go_wp2_with fail
        refine (works_any _).mono ?_; rintro e wx ⟨rfl, hb⟩
        go_wp2_with fail
        go_ret
        exact ⟨rfl, below_after bel hb⟩
      · go_wp2_with fail
        refine (works_any _).mono ?_; rintro e wx ⟨rfl, hb⟩
        go_wp2_with fail
        go_ret
        exact ⟨rfl, below_after bel hb⟩
end Go.Proofs.Ytkhjfknmjbffdaa
