/-
  The chapter's examples ('works') answer true, and turn nothing that was there.
-/
import Derived.Test.YtkhjfknmjbffdaaCall
namespace Go.Proofs.Ytkhjfknmjbffdaa
open Go.RowKit Go.Sort
set_option linter.unusedVariables false
set_option linter.unusedSimpArgs false

theorem liveN_le (S : HS) (n : Nat) (h : n ≤ 9223372036854775807) : (liveN S n).length ≤ 9223372036854775807 := Nat.le_trans (liveN_len S n) h
theorem live_eq (b : Nat) (S : HS) (xs : List Int) (w : World) (h : IsHand w b S) (hok : S.ok) (hx : liveN S 3 = xs) :
    Calls Try.prog 21 #[.pointer (some ⟨b, 0, none⟩)] w fun e w' => ∃ v, e = .returned v ∧ IsInts w' v xs ∧ Below w.heap.size w w' := hx ▸ live_any b S w h hok
theorem keys_eq (b : Nat) (S : HS) (s E : Int) (S' : HS) (w : World) (h : IsHand w b S) (hok : S.ok) (hE : S.keysE s = E) (hS : S.keysS s = S') : Calls Try.prog 26 #[.pointer (some ⟨b, 0, none⟩), .int .i64 s] w (Did b E S' w) := hE ▸ hS ▸ keys_any b S s w h hok
theorem discard_eq (b : Nat) (S : HS) (s E : Int) (S' : HS) (w : World) (h : IsHand w b S) (hok : S.ok) (hE : S.discE s = E) (hS : S.discS s = S') : Calls Try.prog 29 #[.pointer (some ⟨b, 0, none⟩), .int .i64 s] w (Did b E S' w) := hE ▸ hS ▸ discard_any b S s w h hok
theorem answered_eq (b : Nat) (S : HS) (s E : Int) (S' : HS) (w : World) (h : IsHand w b S) (hok : S.ok) (hE : S.needs s = E) (hS : S.ansS s = S') : Calls Try.prog 31 #[.pointer (some ⟨b, 0, none⟩), .int .i64 s] w (Did b E S' w) := hE ▸ hS ▸ answered_any b S s w h hok
theorem confirm_eq (b : Nat) (S : HS) (E : Int) (S' : HS) (w : World) (h : IsHand w b S) (hok : S.ok) (hE : S.needs 2 = E) (hS : S.confS = S') : Calls Try.prog 27 #[.pointer (some ⟨b, 0, none⟩)] w (Did b E S' w) := hE ▸ hS ▸ confirm_any b S w h hok
theorem sure_eq (b : Nat) (S : HS) (x : Bool) (w : World) (h : IsHand w b S) (hok : S.ok) (hx : S.sure = x) : Calls Try.prog 14 #[.pointer (some ⟨b, 0, none⟩)] w fun e w' => e = .returned (.bool x) ∧ w = w' := hx ▸ sure_any b S w h hok
/-- A list of numbers that a literal has laid. -/
theorem ints_made1 (w : World) (x : Int) (t : TypeId) : IsInts (w.alloc (.cells #[.int .i64 x] t)) (.slice (some ⟨w.heap.size, 0, none⟩) 1 1) [x] := by
  refine Or.inr ⟨w.heap.size, 0, 1, rfl, fun i hi => ?_⟩
  have : i = 0 := by simp at hi; exact hi
  subst this
  simp [go_sem]
theorem ints_made2 (w : World) (x y : Int) (t : TypeId) : IsInts (w.alloc (.cells #[.int .i64 x, .int .i64 y] t)) (.slice (some ⟨w.heap.size, 0, none⟩) 2 2) [x, y] := by
  refine Or.inr ⟨w.heap.size, 0, 2, rfl, fun i hi => ?_⟩
  have : i = 0 ∨ i = 1 := by simp at hi; omega
  rcases this with rfl | rfl <;> simp [go_sem]

set_option maxHeartbeats 1000000 in
theorem begins_any (b : Nat) (sv : Bool) (w : World) (h : IsHand w b (HS.start sv)) :
    Calls Try.prog 34 #[.pointer (some ⟨b, 0, none⟩), .bool sv] w fun e w' => e = .returned (.bool true) ∧ Below w.heap.size w w' := by
  have hok := ok_start sv
  have hl : liveN (HS.start sv) 3 = [0] := by cases sv <;> decide
  have HL := hide hl
  clear hl
  go_enter Try.func34, Try.ntmps34
  go_wp2_with fail
  refine (live_eq b _ [0] _ h hok HL.out).mono ?_; rintro e w1 ⟨v, rfl, hv, bel⟩
  have h1 := h.keep bel
  go_wp2_with fail
  refine (eqInts_any v _ [0] [0] _ (hv.keep (below_alloc1 _ _)) (ints_made1 w1 0 3) (by simp) (by simp)).mono ?_; rintro e w2 ⟨rfl, hb⟩
  replace bel := below_after (bel.alloc bel.size (Obj.cells #[.int .i64 0] 3)) hb
  have h2 := (h1.keep (below_alloc1 w1 (Obj.cells #[.int .i64 0] 3))).keep hb
  clear hb hv h1
  cases sv
  all_goals
    go_wp2_with fail
    refine (valid_any b _ _ h2 hok).mono ?_; rintro e w' ⟨rfl, rfl⟩
    go_wp2_with fail
    refine (sure_any b _ _ h2 hok).mono ?_; rintro e w' ⟨rfl, rfl⟩
    go_wp2_with fail
    refine (confirmed_any b _ _ h2 hok).mono ?_; rintro e w' ⟨rfl, rfl⟩
    go_wp2
    go_ret
    exact ⟨rfl, bel⟩

def WRel (w : World) (i : Value) (wr : World) : Prop := ∃ k : Int, i = .int .i64 k ∧ 0 ≤ k ∧ k ≤ 2 ∧ Below w.heap.size w wr
set_option maxRecDepth 100000 in
set_option maxHeartbeats 4000000 in
theorem works_any (w : World) : Calls Try.prog 17 #[] w fun e w' => e = .returned (.bool true) ∧ Below w.heap.size w w' := by
  go_enter Try.func17, Try.ntmps17
  go_wp2_with fail
  go_loopw [1] (WRel w) (fun i _ => (2 - intOf i).toNat)
  case atStart => exact ⟨0, rfl, by omega, by omega, Below.refl _ _⟩
  case round =>
    obtain ⟨k, rfl, k0, k2, bel⟩ := hrel
    obtain rfl | rfl | rfl : k = 0 ∨ k = 1 ∨ k = 2 := by omega
    · skip
      go_wp2_with fail
      refine (new_any true _).mono ?_; rintro e w1 ⟨rfl, hh, hb⟩
      obtain ⟨b, hB⟩ : ∃ b, b = wr.heap.size := ⟨_, rfl⟩
      rw [← hB] at hh ⊢
      have hBB : w.heap.size ≤ b := by have := bel.size; omega
      clear hB
      replace bel := below_after bel hb
      clear hb
      go_wp2_with fail
      refine (begins_any b true _ hh).mono ?_; rintro e w2 ⟨rfl, hb⟩
      replace bel := below_after bel hb
      have hh : IsHand w2 b (⟨true, 1, 0, 0, false, false, false⟩ : HS) := hh.keep hb
      clear hb
      go_wp2_with fail
      refine (keys_eq b (⟨true, 1, 0, 0, false, false, false⟩ : HS) 1 0 (⟨true, 1, 1, 0, false, false, false⟩ : HS) _ hh (by unfold HS.ok; decide) (by decide) (by rfl)).mono ?_; rintro e w3 ⟨rfl, hh, honly⟩
      replace bel := honly.below bel hBB bel.size
      clear honly
      go_wp2_with fail
      refine (keys_eq b (⟨true, 1, 1, 0, false, false, false⟩ : HS) 2 0 (⟨true, 1, 1, 1, false, false, false⟩ : HS) _ hh (by unfold HS.ok; decide) (by decide) (by rfl)).mono ?_; rintro e w4 ⟨rfl, hh, honly⟩
      replace bel := honly.below bel hBB bel.size
      clear honly
      go_wp2_with fail
      refine (discard_eq b (⟨true, 1, 1, 1, false, false, false⟩ : HS) 0 0 (⟨true, 2, 1, 1, false, false, false⟩ : HS) _ hh (by unfold HS.ok; decide) (by decide) (by rfl)).mono ?_; rintro e w5 ⟨rfl, hh, honly⟩
      replace bel := honly.below bel hBB bel.size
      clear honly
      go_wp2_with fail
      refine (discard_eq b (⟨true, 2, 1, 1, false, false, false⟩ : HS) 0 160 (⟨true, 2, 1, 1, false, false, false⟩ : HS) _ hh (by unfold HS.ok; decide) (by decide) (by rfl)).mono ?_; rintro e w6 ⟨rfl, hh, honly⟩
      replace bel := honly.below bel hBB bel.size
      clear honly
      go_wp2_with fail
      refine (keys_eq b (⟨true, 2, 1, 1, false, false, false⟩ : HS) 0 160 (⟨true, 2, 1, 1, false, false, false⟩ : HS) _ hh (by unfold HS.ok; decide) (by decide) (by rfl)).mono ?_; rintro e w7 ⟨rfl, hh, honly⟩
      replace bel := honly.below bel hBB bel.size
      clear honly
      go_wp2_with fail
      refine (discard_eq b (⟨true, 2, 1, 1, false, false, false⟩ : HS) 2 2 (⟨true, 2, 1, 1, false, false, false⟩ : HS) _ hh (by unfold HS.ok; decide) (by decide) (by rfl)).mono ?_; rintro e w8 ⟨rfl, hh, honly⟩
      replace bel := honly.below bel hBB bel.size
      clear honly
      go_wp2_with fail
      refine (live_eq b (⟨true, 2, 1, 1, false, false, false⟩ : HS) [1, 2] _ hh (by unfold HS.ok; decide) (by decide)).mono ?_; rintro e w9 ⟨v, rfl, hv, hb⟩
      replace hh := hh.keep hb
      replace bel := below_after bel hb
      clear hb
      go_wp2_with fail
      refine (eqInts_any v _ [1, 2] [1, 2] _ (hv.keep (below_alloc1 _ _)) (ints_made2 w9 1 2 3) (by simp) (by simp)).mono ?_; rintro e w10 ⟨rfl, hb⟩
      replace bel := below_after (bel.alloc bel.size (Obj.cells #[.int .i64 1, .int .i64 2] 3)) hb
      replace hh := (hh.keep (below_alloc1 w9 (Obj.cells #[.int .i64 1, .int .i64 2] 3))).keep hb
      clear hb hv
      go_wp2_with fail
      refine (answered_eq b (⟨true, 2, 1, 1, false, false, false⟩ : HS) 0 160 (⟨true, 2, 1, 1, false, false, false⟩ : HS) _ hh (by unfold HS.ok; decide) (by decide) (by rfl)).mono ?_; rintro e w11 ⟨rfl, hh, honly⟩
      replace bel := honly.below bel hBB bel.size
      clear honly
      go_wp2_with fail
      refine (answered_eq b (⟨true, 2, 1, 1, false, false, false⟩ : HS) 1 0 (⟨true, 2, 1, 1, false, false, true⟩ : HS) _ hh (by unfold HS.ok; decide) (by decide) (by rfl)).mono ?_; rintro e w12 ⟨rfl, hh, honly⟩
      replace bel := honly.below bel hBB bel.size
      clear honly
      go_wp2_with fail
      refine (sure_eq b (⟨true, 2, 1, 1, false, false, true⟩ : HS) true _ hh (by unfold HS.ok; decide) (by decide)).mono ?_; rintro e w' ⟨rfl, rfl⟩
      go_wp2_with fail
      refine (confirm_eq b (⟨true, 2, 1, 1, false, false, true⟩ : HS) 0 (⟨true, 2, 1, 1, true, true, true⟩ : HS) _ hh (by unfold HS.ok; decide) (by decide) (by rfl)).mono ?_; rintro e w13 ⟨rfl, hh, honly⟩
      replace bel := honly.below bel hBB bel.size
      clear honly
      go_wp2_with fail
      refine (valid_any b _ _ hh (by unfold HS.ok; decide)).mono ?_; rintro e w' ⟨rfl, rfl⟩
      go_wp2_with fail
      refine (confirmed_any b _ _ hh (by unfold HS.ok; decide)).mono ?_; rintro e w' ⟨rfl, rfl⟩
      go_wp2_with fail
      clear hh
      go_roundw
      case rel => exact ⟨1, rfl, by omega, by omega, bel⟩
      case measure => simp [intOf]
    · skip
      go_wp2_with fail
      refine (new_any false _).mono ?_; rintro e w1 ⟨rfl, hh, hb⟩
      obtain ⟨b, hB⟩ : ∃ b, b = wr.heap.size := ⟨_, rfl⟩
      rw [← hB] at hh ⊢
      have hBB : w.heap.size ≤ b := by have := bel.size; omega
      clear hB
      replace bel := below_after bel hb
      clear hb
      go_wp2_with fail
      refine (begins_any b false _ hh).mono ?_; rintro e w2 ⟨rfl, hb⟩
      replace bel := below_after bel hb
      have hh : IsHand w2 b (⟨false, 1, 0, 0, true, false, false⟩ : HS) := hh.keep hb
      clear hb
      go_wp2_with fail
      refine (keys_eq b (⟨false, 1, 0, 0, true, false, false⟩ : HS) 1 0 (⟨false, 1, 1, 0, true, false, false⟩ : HS) _ hh (by unfold HS.ok; decide) (by decide) (by rfl)).mono ?_; rintro e w3 ⟨rfl, hh, honly⟩
      replace bel := honly.below bel hBB bel.size
      clear honly
      go_wp2_with fail
      refine (keys_eq b (⟨false, 1, 1, 0, true, false, false⟩ : HS) 2 0 (⟨false, 1, 1, 1, true, false, false⟩ : HS) _ hh (by unfold HS.ok; decide) (by decide) (by rfl)).mono ?_; rintro e w4 ⟨rfl, hh, honly⟩
      replace bel := honly.below bel hBB bel.size
      clear honly
      go_wp2_with fail
      refine (discard_eq b (⟨false, 1, 1, 1, true, false, false⟩ : HS) 0 0 (⟨false, 2, 1, 1, true, false, false⟩ : HS) _ hh (by unfold HS.ok; decide) (by decide) (by rfl)).mono ?_; rintro e w5 ⟨rfl, hh, honly⟩
      replace bel := honly.below bel hBB bel.size
      clear honly
      go_wp2_with fail
      refine (discard_eq b (⟨false, 2, 1, 1, true, false, false⟩ : HS) 0 160 (⟨false, 2, 1, 1, true, false, false⟩ : HS) _ hh (by unfold HS.ok; decide) (by decide) (by rfl)).mono ?_; rintro e w6 ⟨rfl, hh, honly⟩
      replace bel := honly.below bel hBB bel.size
      clear honly
      go_wp2_with fail
      refine (keys_eq b (⟨false, 2, 1, 1, true, false, false⟩ : HS) 0 160 (⟨false, 2, 1, 1, true, false, false⟩ : HS) _ hh (by unfold HS.ok; decide) (by decide) (by rfl)).mono ?_; rintro e w7 ⟨rfl, hh, honly⟩
      replace bel := honly.below bel hBB bel.size
      clear honly
      go_wp2_with fail
      refine (discard_eq b (⟨false, 2, 1, 1, true, false, false⟩ : HS) 2 2 (⟨false, 2, 1, 1, true, false, false⟩ : HS) _ hh (by unfold HS.ok; decide) (by decide) (by rfl)).mono ?_; rintro e w8 ⟨rfl, hh, honly⟩
      replace bel := honly.below bel hBB bel.size
      clear honly
      go_wp2_with fail
      refine (live_eq b (⟨false, 2, 1, 1, true, false, false⟩ : HS) [1, 2] _ hh (by unfold HS.ok; decide) (by decide)).mono ?_; rintro e w9 ⟨v, rfl, hv, hb⟩
      replace hh := hh.keep hb
      replace bel := below_after bel hb
      clear hb
      go_wp2_with fail
      refine (eqInts_any v _ [1, 2] [1, 2] _ (hv.keep (below_alloc1 _ _)) (ints_made2 w9 1 2 3) (by simp) (by simp)).mono ?_; rintro e w10 ⟨rfl, hb⟩
      replace bel := below_after (bel.alloc bel.size (Obj.cells #[.int .i64 1, .int .i64 2] 3)) hb
      replace hh := (hh.keep (below_alloc1 w9 (Obj.cells #[.int .i64 1, .int .i64 2] 3))).keep hb
      clear hb hv
      go_wp2_with fail
      refine (answered_eq b (⟨false, 2, 1, 1, true, false, false⟩ : HS) 0 160 (⟨false, 2, 1, 1, true, false, false⟩ : HS) _ hh (by unfold HS.ok; decide) (by decide) (by rfl)).mono ?_; rintro e w11 ⟨rfl, hh, honly⟩
      replace bel := honly.below bel hBB bel.size
      clear honly
      go_wp2_with fail
      refine (answered_eq b (⟨false, 2, 1, 1, true, false, false⟩ : HS) 1 0 (⟨false, 2, 1, 1, true, false, true⟩ : HS) _ hh (by unfold HS.ok; decide) (by decide) (by rfl)).mono ?_; rintro e w12 ⟨rfl, hh, honly⟩
      replace bel := honly.below bel hBB bel.size
      clear honly
      go_wp2_with fail
      refine (sure_eq b (⟨false, 2, 1, 1, true, false, true⟩ : HS) true _ hh (by unfold HS.ok; decide) (by decide)).mono ?_; rintro e w' ⟨rfl, rfl⟩
      go_wp2_with fail
      refine (confirm_eq b (⟨false, 2, 1, 1, true, false, true⟩ : HS) 0 (⟨false, 2, 1, 1, true, true, true⟩ : HS) _ hh (by unfold HS.ok; decide) (by decide) (by rfl)).mono ?_; rintro e w13 ⟨rfl, hh, honly⟩
      replace bel := honly.below bel hBB bel.size
      clear honly
      go_wp2_with fail
      refine (valid_any b _ _ hh (by unfold HS.ok; decide)).mono ?_; rintro e w' ⟨rfl, rfl⟩
      go_wp2_with fail
      refine (confirmed_any b _ _ hh (by unfold HS.ok; decide)).mono ?_; rintro e w' ⟨rfl, rfl⟩
      go_wp2_with fail
      clear hh
      go_roundw
      case rel => exact ⟨2, rfl, by omega, by omega, bel⟩
      case measure => simp [intOf]
    · go_wp2
      go_ret
      exact ⟨rfl, bel⟩
end Go.Proofs.Ytkhjfknmjbffdaa
