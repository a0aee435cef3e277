/-
  The walk of ProbeKnown: it answers true, and turns nothing that was there.
-/
import Derived.Test.YtfebopgljcagnaaTells
namespace Go.Proofs.Ytfebopgljcagnaa
open Go.RowKit Go.Sort
set_option linter.unusedVariables false
set_option linter.unusedSimpArgs false

/-- The seven numbers of the closed statement. -/
def ends : List Int := [-9223372036854775808, -1, 0, 1, 2, 3, 9223372036854775807]
def IsEnds (w : World) (b : Nat) : Prop := ∀ i : Nat, i < 7 → w.cell? ⟨b, i, none⟩ = some (.int .i64 (ends.getD i 0))
theorem IsEnds.keep {W w' : World} {b : Nat} (h : IsEnds W b) (hb : Below W.heap.size W w') : IsEnds w' b := fun i hi => keep_cell hb (h i hi)
theorem IsEnds.made (w : World) (t : TypeId) : IsEnds (w.alloc (.cells #[.int .i64 (-9223372036854775808), .int .i64 (-1), .int .i64 0, .int .i64 1, .int .i64 2, .int .i64 3, .int .i64 9223372036854775807] t)) w.heap.size := by
  intro i hi
  match i, hi with
  | 0, _ => simp [go_sem, ends]
  | 1, _ => simp [go_sem, ends]
  | 2, _ => simp [go_sem, ends]
  | 3, _ => simp [go_sem, ends]
  | 4, _ => simp [go_sem, ends]
  | 5, _ => simp [go_sem, ends]
  | 6, _ => simp [go_sem, ends]

def KRel (w : World) (i : Value) (wr : World) : Prop := ∃ k : Nat, i = .int .i64 (k : Int) ∧ k ≤ 7 ∧ IsEnds wr w.heap.size ∧ Below w.heap.size w wr

set_option maxHeartbeats 4000000 in
theorem known_any (w : World) : Calls Try.prog 8 #[] w fun e w' => e = .returned (.bool true) ∧ Below w.heap.size w w' := by
  go_enter Try.func8, Try.ntmps8
  go_wp2_with fail
  have k1 := IsEnds.made w 3
  have bel : Below w.heap.size w (w.alloc (.cells #[.int .i64 (-9223372036854775808), .int .i64 (-1), .int .i64 0, .int .i64 1, .int .i64 2, .int .i64 3, .int .i64 9223372036854775807] 3)) := below_alloc1 _ _
  go_loopw [2] (KRel w) (fun i _ => (7 - intOf i).toNat)
  case atStart => exact ⟨0, rfl, by omega, k1, bel⟩
  case round =>
    clear k1 bel
    obtain ⟨i, rfl, i7, k1, bel⟩ := hrel
    obtain ⟨wo, hwo⟩ : ∃ wo : World, wo = wr := ⟨_, rfl⟩
    by_cases hi : i < 7
    · go_wp2_with fail
      clear hwo
      go_loopw [3] (KRel w) (fun i _ => (7 - intOf i).toNat)
      case atStart => exact ⟨0, rfl, by omega, k1, bel⟩
      case round =>
        clear k1 bel
        obtain ⟨k, rfl, k7, k1, bel⟩ := hrel
        by_cases hk : k < 7
        · go_wp2_with fail
          go_loopw [4] (KRel w) (fun i _ => (7 - intOf i).toNat)
          case atStart => exact ⟨0, rfl, by omega, k1, bel⟩
          case round =>
            clear k1 bel
            obtain ⟨j, rfl, j7, k1, bel⟩ := hrel
            by_cases hj : j < 7
            · go_wp2_with fail
              have ci := cell_regrown (k1 i hi)
              have ck := cell_regrown (k1 k hk)
              have cj := cell_regrown (k1 j hj)
              have cik := cell_regrown (k1 ((i + k) % 7) (by omega))
              have ckj := cell_regrown (k1 ((k + j) % 7) (by omega))
              have m1 : ((i + k) % 7 : Nat) < 7 := by omega
              have m2 : ((k + j) % 7 : Nat) < 7 := by omega
              have t1 : ((i : Int) + (k : Int)).tmod 7 = (((i + k) % 7 : Nat) : Int) := by rw [Int.tmod_eq_emod_of_nonneg (by omega)]; omega
              have t2 : ((k : Int) + (j : Int)).tmod 7 = (((k + j) % 7 : Nat) : Int) := by rw [Int.tmod_eq_emod_of_nonneg (by omega)]; omega
              have v1 : IntKind.i64.wrap ((i : Int) + (k : Int)) = (i : Int) + (k : Int) := IntWalk.i64_in _ (by omega)
              have v2 : IntKind.i64.wrap ((k : Int) + (j : Int)) = (k : Int) + (j : Int) := IntWalk.i64_in _ (by omega)
              generalize (i + k) % 7 = p1 at *
              generalize (k + j) % 7 = p2 at *
              refine wp_region_quiet_below (by kernel_rfl) (by kernel_rfl) ?_
              repeat (go_big_quiet_step ((go_at_call 3; exact Calls.regrown_of (tells_any _ _ _ _ _ _))))
              refine wpQuiet_nil ?_
              intro W2 hw2
              obtain ⟨⟨dq, osq⟩, hw3⟩ := hw2
              have hbq : Below wr.heap.size wr W2 := by rw [hw3]; exact below_regrown wr dq osq
              clear hw3 ci ck cj cik ckj t1 t2 v1 v2
              replace bel := below_after bel hbq
              replace k1 := k1.keep hbq
              clear hbq
              go_wp2_with fail
              go_roundw
              case rel => exact ⟨j + 1, by go_num, by omega, k1, bel⟩
              case measure => simp [intOf]; omega
            · go_wp2_with fail
              go_roundw
              case rel => exact ⟨k + 1, by go_num, by omega, k1, bel⟩
              case measure => simp [intOf]; omega
        · go_wp2_with fail
          go_roundw
          case rel => exact ⟨i + 1, by go_num, by omega, k1, bel⟩
          case measure => simp [intOf]; omega
    · go_wp2_with (go_at_call 22; refine (works_any _).mono ?_; rintro e wx ⟨rfl, hb⟩)
      go_ret
      exact ⟨rfl, below_after bel hb⟩
end Go.Proofs.Ytfebopgljcagnaa
