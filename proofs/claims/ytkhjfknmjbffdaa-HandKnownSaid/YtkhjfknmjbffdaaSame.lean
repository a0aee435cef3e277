/-
  The contract of 'same': a handshake and the document's answer that are in one state are the same of all spaces.
-/
import Derived.Test.YtkhjfknmjbffdaaRef
import Derived.Deep.RegionWith
namespace Go.Proofs.Ytkhjfknmjbffdaa
open Go.RowKit Go.Sort
set_option linter.unusedVariables false
set_option linter.unusedSimpArgs false

def QRel (w : World) (i : Value) (wr : World) : Prop := ∃ x : Int, i = .int .i64 x ∧ -1 ≤ x ∧ x ≤ 4 ∧ w = wr

theorem RefAt.drew {w : World} {B m : Nat} {S : HS} {vK vG : Value} {K G : List Int} (h : RefAt w B m S vK vG K G) : RefAt w.drew B m S vK vG K G := h.move fun _ _ _ => rfl
theorem below_drew {w w' : World} (h : Below w.drew.heap.size w.drew w') : Below w.heap.size w w' := ⟨h.os, h.tape, h.output, h.size, h.block⟩
set_option maxRecDepth 100000 in
set_option maxHeartbeats 8000000 in
theorem same_any {w : World} {B b m : Nat} {S : HS} {vK vG : Value} {K G : List Int} (hh : IsHand w b S) (hr : RefAt w B m S vK vG K G) (hok : S.ok) (s : Int) :
    Calls Try.prog 23 #[.pointer (some ⟨b, 0, none⟩), .pointer (some ⟨m, 0, none⟩), .int .i64 s] w fun e w' => e = .returned (.bool true) ∧ Below w.heap.size w w' := by
  go_enter Try.func23, Try.ntmps23
  go_wp2_with fail
  go_loopw [7] (QRel w) (fun i _ => (4 - intOf i).toNat)
  case atStart => exact ⟨-1, rfl, by omega, by omega, rfl⟩
  case round =>
    obtain ⟨x, rfl, x0, x4, rfl⟩ := hrel
    by_cases hx : x ≤ 3
    · obtain ⟨L, hL⟩ : ∃ L, S.lives x = L := ⟨_, rfl⟩
      obtain ⟨M, hM⟩ : ∃ M, S.has x = M := ⟨_, rfl⟩
      have cL := lives_any b S x w hh hok
      have cM := has_any b S x w hh hok
      have rL := rlives_any hr hok x
      have rM := rhas_any hr x
      rw [hL] at cL rL
      rw [hM] at cM rM
      clear hL hM
      go_wp2_with fail
      refine cL.mono ?_; rintro e w' ⟨rfl, rfl⟩
      go_wp2_with fail
      refine rL.mono ?_; rintro e w' ⟨rfl, rfl⟩
      cases L
      all_goals
        go_wp2_with fail
        refine cM.mono ?_; rintro e w' ⟨rfl, rfl⟩
        go_wp2_with fail
        refine rM.mono ?_; rintro e w' ⟨rfl, rfl⟩
        cases M
        all_goals
          go_wp2_with fail
          go_roundw
          case rel => exact ⟨x + 1, rfl, by omega, by omega, rfl⟩
          case measure => simp [intOf]; omega
    · obtain rfl : x = 4 := by omega
      obtain ⟨L, hL⟩ : ∃ L, S.lives s = L := ⟨_, rfl⟩
      obtain ⟨M, hM⟩ : ∃ M, S.has s = M := ⟨_, rfl⟩
      obtain ⟨U, hU⟩ : ∃ U, S.sure = U := ⟨_, rfl⟩
      obtain ⟨xs, hxs⟩ : ∃ xs, liveN S 3 = xs := ⟨_, rfl⟩
      have hl : xs.length ≤ 9223372036854775807 := by rw [← hxs]; have := liveN_len S 3; omega
      have cL := fun W (h : IsHand W b S) => lives_any b S s W h hok
      have cM := fun W (h : IsHand W b S) => has_any b S s W h hok
      have cU := fun W (h : IsHand W b S) => sure_any b S W h hok
      have cX := fun W (h : IsHand W b S) => live_any b S W h hok
      have cV := fun W (h : IsHand W b S) => valid_any b S W h hok
      have cC := fun W (h : IsHand W b S) => confirmed_any b S W h hok
      have rL := fun W (h : RefAt W B m S vK vG K G) => rlives_any h hok s
      have rM := fun W (h : RefAt W B m S vK vG K G) => rhas_any h s
      have rU := fun W (h : RefAt W B m S vK vG K G) => rsure_any h
      have rX := fun W (h : RefAt W B m S vK vG K G) => rlive_any h hok
      rw [hL] at cL rL
      rw [hM] at cM rM
      rw [hU] at cU rU
      rw [hxs] at cX rX
      clear hL hM hU hxs
      replace cL := hide cL
      replace cM := hide cM
      replace cU := hide cU
      replace cX := hide cX
      replace cV := hide cV
      replace cC := hide cC
      replace rL := hide rL
      replace rM := hide rM
      replace rU := hide rU
      replace rX := hide rX
      have hrd := hr.drew
      have hhd : IsHand w.drew b S := hh
      have cE := fun u v W (hu : IsInts W u xs) (hv : IsInts W v xs) => eqInts_any u v xs xs W hu hv hl hl
      rw [decide_eq_true (rfl : xs = xs)] at cE
      go_wp2_with fail
      go_region_with (first
        | (go_at_call 12; refine (cL.out _ ?_).mono ?_; exact hh; rintro e w' ⟨rfl, rfl⟩)
        | (go_at_call 36; refine (rL.out _ ?_).mono ?_; exact hrd; rintro e w' ⟨rfl, rfl⟩)
        | (go_at_call 19; refine (cM.out _ ?_).mono ?_; exact hh; rintro e w' ⟨rfl, rfl⟩)
        | (go_at_call 37; refine (rM.out _ ?_).mono ?_; exact hrd; rintro e w' ⟨rfl, rfl⟩)
        | (go_at_call 21; refine (cX.out _ ?_).mono ?_; exact hh; rintro e w1 ⟨v1, rfl, hv1, hb1⟩)
        | (go_at_call 38; refine (rX.out _ ?_).mono ?_; exact hrd.keep hb1; rintro e w2 ⟨v2, rfl, hv2, hb2⟩)
        | (go_at_call 20; go_loud (refine (cE v1 v2 _ ?_ ?_).mono ?_; exact hv1.keep hb2; exact hv2; rintro e w3 ⟨rfl, hb3⟩; have hh3 : IsHand w3 b S := ((IsHand.keep hhd hb1).keep hb2).keep hb3; have hr3 : RefAt w3 B m S vK vG K G := ((RefAt.keep hrd hb1).keep hb2).keep hb3; have bel3 : Below w.heap.size w w3 := below_after (below_after (below_drew hb1) hb2) hb3; obtain ⟨d0, d1, d2, d3, d4, d5⟩ := hr3.cells))
        | (go_at_call 15; refine (cV.out _ ?_).mono ?_; exact hh3; rintro e w' ⟨rfl, rfl⟩)
        | (go_at_call 16; refine (cC.out _ ?_).mono ?_; exact hh3; rintro e w' ⟨rfl, rfl⟩)
        | (go_at_call 14; refine (cU.out _ ?_).mono ?_; exact hh3; rintro e w' ⟨rfl, rfl⟩)
        | (go_at_call 39; refine (rU.out _ ?_).mono ?_; exact hr3; rintro e w' ⟨rfl, rfl⟩))
      all_goals (go_wp2_with fail; go_ret; exact ⟨rfl, bel3⟩)
end Go.Proofs.Ytkhjfknmjbffdaa
