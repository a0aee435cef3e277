/-
  The walk of HandKnown: each call at the beginning, and behind each one; handshakes that are none: it answers true, and turns nothing that was there.
-/
import Derived.Test.YtkhjfknmjbffdaaPlays
import Derived.Test.YtkhjfknmjbffdaaNone
import Derived.Deep.DeepCutAuto
namespace Go.Proofs.Ytkhjfknmjbffdaa
open Go.RowKit Go.Sort
set_option linter.unusedVariables false
set_option linter.unusedSimpArgs false
def ends : Nat → Int
  | 0 => -9223372036854775808
  | 1 => -1
  | 2 => 0
  | 3 => 1
  | 4 => 2
  | 5 => 3
  | _ => 9223372036854775807
def IsEnds (w : World) (n : Nat) : Prop := ∀ k, k < 7 → w.cell? ⟨n, k, none⟩ = some (.int .i64 (ends k))
theorem ends_in (k : Nat) : -9223372036854775808 ≤ ends k ∧ ends k ≤ 9223372036854775807 := by
  unfold ends; split <;> omega
def BI (x : Int) : Prop := -9223372036854775808 ≤ x ∧ x ≤ 9223372036854775807
theorem rows5 (w : World) (a0 b0 a1 b1 a2 b2 a3 b3 a4 b4 : Int) (h0 : -9223372036854775808 ≤ a0 ∧ a0 ≤ 9223372036854775807) (h1 : -9223372036854775808 ≤ b0 ∧ b0 ≤ 9223372036854775807) (h2 : -9223372036854775808 ≤ a1 ∧ a1 ≤ 9223372036854775807) (h3 : -9223372036854775808 ≤ b1 ∧ b1 ≤ 9223372036854775807) (h4 : -9223372036854775808 ≤ a2 ∧ a2 ≤ 9223372036854775807) (h5 : -9223372036854775808 ≤ b2 ∧ b2 ≤ 9223372036854775807) (h6 : -9223372036854775808 ≤ a3 ∧ a3 ≤ 9223372036854775807) (h7 : -9223372036854775808 ≤ b3 ∧ b3 ≤ 9223372036854775807) (h8 : -9223372036854775808 ≤ a4 ∧ a4 ≤ 9223372036854775807) (h9 : -9223372036854775808 ≤ b4 ∧ b4 ≤ 9223372036854775807) :
    IsRows (w.alloc (.cells #[.int .i64 a0, .int .i64 b0, .int .i64 a1, .int .i64 b1, .int .i64 a2, .int .i64 b2, .int .i64 a3, .int .i64 b3, .int .i64 a4, .int .i64 b4] 27)) (some ⟨w.heap.size, 0, none⟩) 5 2 (fun i j => [a0, b0, a1, b1, a2, b2, a3, b3, a4, b4].getD (i * 2 + j) 0) := by
  refine ⟨by unfold maxLen; omega, Or.inr ⟨w.heap.size, 0, rfl, fun i hi j hj => ?_⟩⟩
  have hx : (w.alloc (.cells #[.int .i64 a0, .int .i64 b0, .int .i64 a1, .int .i64 b1, .int .i64 a2, .int .i64 b2, .int .i64 a3, .int .i64 b3, .int .i64 a4, .int .i64 b4] 27)).heap[w.heap.size]? = some (.cells #[.int .i64 a0, .int .i64 b0, .int .i64 a1, .int .i64 b1, .int .i64 a2, .int .i64 b2, .int .i64 a3, .int .i64 b3, .int .i64 a4, .int .i64 b4] 27 (0, 0)) := by show (w.heap.push _)[w.heap.size]? = _; simp
  generalize (w.alloc (.cells #[.int .i64 a0, .int .i64 b0, .int .i64 a1, .int .i64 b1, .int .i64 a2, .int .i64 b2, .int .i64 a3, .int .i64 b3, .int .i64 a4, .int .i64 b4] 27)) = W at hx ⊢
  obtain rfl | rfl | rfl | rfl | rfl : i = 0 ∨ i = 1 ∨ i = 2 ∨ i = 3 ∨ i = 4 := by omega
  all_goals
    obtain rfl | rfl : j = 0 ∨ j = 1 := by omega
    all_goals exact ⟨by simp [World.cell?, hx], by assumption⟩
theorem rows_drew {w : World} {a : Option Addr} {n m : Nat} {z : Nat → Nat → Int} (h : IsRows w a n m z) : IsRows w.drew a n m z := h
def KnRel (w : World) (n : Nat) (i : Value) (wr : World) : Prop := ∃ k : Nat, i = .int .i64 (k : Int) ∧ k ≤ n ∧ IsEnds wr w.heap.size ∧ Below w.heap.size w wr
def NRel (w : World) (p i : Value) (wr : World) : Prop := (p = .pointer none ∧ i = .int .i64 0 ∧ Below w.heap.size w wr) ∨ ∃ (b : Nat) (k : Nat), p = .pointer (some ⟨b, 0, none⟩) ∧ i = .int .i64 (k : Int) ∧ IsHand wr b noHand ∧ 1 ≤ k ∧ k ≤ 2 ∧ Below w.heap.size w wr
theorem heap_at1 (w : World) : IsHand (w.alloc (.cells noHand.cells 54)) w.heap.size noHand := by
  show (w.heap.push _)[w.heap.size]? = _
  simp
set_option maxRecDepth 100000 in
set_option maxHeartbeats 8000000 in
theorem handKnown_any (w : World) : Calls Try.prog 9 #[] w fun e w' => e = .returned (.bool true) ∧ Below w.heap.size w w' := by
  go_enter Try.func9, Try.ntmps9
  go_wp2_with fail
  obtain ⟨W, hW⟩ : ∃ W, W = (w.alloc (Obj.cells #[Value.int IntKind.i64 (-9223372036854775808), Value.int IntKind.i64 (-1), Value.int IntKind.i64 0, Value.int IntKind.i64 1, Value.int IntKind.i64 2, Value.int IntKind.i64 3, Value.int IntKind.i64 9223372036854775807] 3)) := ⟨_, rfl⟩
  have bel : Below w.heap.size w W := by rw [hW]; exact below_alloc1 w _
  have hE : IsEnds W w.heap.size := by
    have hx : W.heap[w.heap.size]? = some (.cells #[Value.int IntKind.i64 (-9223372036854775808), Value.int IntKind.i64 (-1), Value.int IntKind.i64 0, Value.int IntKind.i64 1, Value.int IntKind.i64 2, Value.int IntKind.i64 3, Value.int IntKind.i64 9223372036854775807] 3 (0, 0)) := by rw [hW]; show (w.heap.push _)[w.heap.size]? = _; simp
    intro k hk
    obtain rfl | rfl | rfl | rfl | rfl | rfl | rfl : k = 0 ∨ k = 1 ∨ k = 2 ∨ k = 3 ∨ k = 4 ∨ k = 5 ∨ k = 6 := by omega
    all_goals simp [World.cell?, hx, ends]
  rw [← hW]
  clear hW
  go_loopw [2] (KnRel w 2) (fun i _ => (2 - intOf i).toNat)
  case atStart => exact ⟨0, rfl, by omega, hE, bel⟩
  case round =>
    clear hE bel
    obtain ⟨i, rfl, hi, hE, bel⟩ := hrel
    by_cases h1 : i < 2
    · have d1 : decide ((i : Int) < 2) = true := by simp; omega
      go_wp2_with fail
      go_loopw [3] (KnRel w 6) (fun i _ => (6 - intOf i).toNat)
      case atStart => exact ⟨0, rfl, by omega, hE, bel⟩
      case round =>
        clear hE bel
        obtain ⟨k, rfl, hk, hE, bel⟩ := hrel
        by_cases h2 : k < 6
        · have d2 : decide ((k : Int) < 6) = true := by simp; omega
          go_wp2_with fail
          go_loopw [4] (KnRel w 7) (fun i _ => (7 - intOf i).toNat)
          case atStart => exact ⟨0, rfl, by omega, hE, bel⟩
          case round =>
            clear hE bel
            obtain ⟨s, rfl, hs, hE, bel⟩ := hrel
            by_cases h3 : s < 7
            · have d3 : decide ((s : Int) < 7) = true := by simp; omega
              go_wp2_with fail
              go_loopw [5] (KnRel w 6) (fun i _ => (6 - intOf i).toNat)
              case atStart => exact ⟨0, rfl, by omega, hE, bel⟩
              case round =>
                clear hE bel
                obtain ⟨j, rfl, hj, hE, bel⟩ := hrel
                by_cases h4 : j < 6
                · have ce := hE s h3
                  have ced : wr.drew.cell? ⟨w.heap.size, s, none⟩ = some (.int .i64 (ends s)) := ce
                  obtain ⟨x, hx⟩ : ∃ x, ends s = x := ⟨_, rfl⟩
                  have hxb := ends_in s
                  rw [hx] at ce ced hxb
                  have HX := hide hx
                  clear hx
                  have hR := rows5 wr (k : Int) x (j : Int) 2 (j : Int) x 6 0 (k : Int) 2 (by omega) hxb (by omega) (by omega) (by omega) hxb (by omega) (by omega) (by omega) (by omega)
                  have hb0 : Below wr.heap.size wr (wr.alloc (.cells #[.int .i64 (k : Int), .int .i64 x, .int .i64 (j : Int), .int .i64 2, .int .i64 (j : Int), .int .i64 x, .int .i64 6, .int .i64 0, .int .i64 (k : Int), .int .i64 2] 27)) := below_alloc1 wr _
                  have hRd := rows_drew hR
                  go_wp2_with fail
                  go_region_with (go_at_call 6; go_loud (refine (handPlays_any _ _ 5 5 _ _ hRd).mono ?_); rintro e w4 ⟨rfl, hb4⟩)
                  all_goals
                    have hb5 := below_after hb0 (below_drew hb4)
                    have bel5 := below_after bel hb5
                    have hE5 : IsEnds w4 w.heap.size := fun q hq => keep_cell hb5 (hE q hq)
                    go_wp2_with fail
                    go_roundw
                    case rel => exact ⟨j + 1, by go_num, by omega, hE5, bel5⟩
                    case measure => simp [intOf]; omega
                · go_wp2_with fail
                  go_roundw
                  case rel => exact ⟨s + 1, by go_num, by omega, hE, bel⟩
                  case measure => simp [intOf]; omega
            · go_wp2_with fail
              go_roundw
              case rel => exact ⟨k + 1, by go_num, by omega, hE, bel⟩
              case measure => simp [intOf]; omega
        · go_wp2_with fail
          go_roundw
          case rel => exact ⟨i + 1, by go_num, by omega, hE, bel⟩
          case measure => simp [intOf]; omega
    · have d1 : decide ((i : Int) < 2) = false := by simp; omega
      go_wp2_with fail
      go_loopw [6, 7] (NRel w) (fun _ i _ => (2 - intOf i).toNat)
      case atStart => exact Or.inl ⟨rfl, rfl, bel⟩
      case round =>
        clear hE bel hi h1
        rcases hrel with ⟨rfl, rfl, bel⟩ | ⟨b, k, rfl, rfl, hz, k1, k2, bel⟩
        · go_wp2_with (first | (go_at_call 26; refine (keys_nil _).mono ?_; rintro e w' ⟨rfl, rfl⟩) | (go_at_call 29; refine (disc_nil _).mono ?_; rintro e w' ⟨rfl, rfl⟩) | (go_at_call 30; refine (vali_nil _).mono ?_; rintro e w' ⟨rfl, rfl⟩) | (go_at_call 27; refine (conf_nil _).mono ?_; rintro e w' ⟨rfl, rfl⟩) | (go_at_call 31; refine (answ_nil _).mono ?_; rintro e w' ⟨rfl, rfl⟩) | (go_at_call 12; refine (lives_nil _).mono ?_; rintro e w' ⟨rfl, rfl⟩) | (go_at_call 19; refine (has_nil _).mono ?_; rintro e w' ⟨rfl, rfl⟩) | (go_at_call 21; refine (live_nil _).mono ?_; rintro e w' ⟨rfl, rfl⟩) | (go_at_call 15; refine (valid_nil _).mono ?_; rintro e w' ⟨rfl, rfl⟩) | (go_at_call 16; refine (confd_nil _).mono ?_; rintro e w' ⟨rfl, rfl⟩) | (go_at_call 14; refine (sure_nil _).mono ?_; rintro e w' ⟨rfl, rfl⟩) | (go_at_call 24; refine (copy_nil _).mono ?_; rintro e w' ⟨rfl, rfl⟩))
          go_roundw
          case rel => exact Or.inr ⟨_, 1, rfl, rfl, heap_at1 _, by omega, by omega, bel.alloc bel.size _⟩
          case measure => simp [intOf]
        · by_cases h2 : k < 2
          · go_wp2_with (first | (go_at_call 26; refine (keys_zero b _ hz).mono ?_; rintro e w' ⟨rfl, rfl⟩) | (go_at_call 29; refine (disc_zero b _ hz).mono ?_; rintro e w' ⟨rfl, rfl⟩) | (go_at_call 30; refine (vali_zero b _ hz).mono ?_; rintro e w' ⟨rfl, rfl⟩) | (go_at_call 27; refine (conf_zero b _ hz).mono ?_; rintro e w' ⟨rfl, rfl⟩) | (go_at_call 31; refine (answ_zero b _ hz).mono ?_; rintro e w' ⟨rfl, rfl⟩) | (go_at_call 12; refine (lives_zero b _ hz).mono ?_; rintro e w' ⟨rfl, rfl⟩) | (go_at_call 19; refine (has_zero b _ hz).mono ?_; rintro e w' ⟨rfl, rfl⟩) | (go_at_call 21; refine (live_zero b _ hz).mono ?_; rintro e w' ⟨rfl, rfl⟩) | (go_at_call 15; refine (valid_zero b _ hz).mono ?_; rintro e w' ⟨rfl, rfl⟩) | (go_at_call 16; refine (confd_zero b _ hz).mono ?_; rintro e w' ⟨rfl, rfl⟩) | (go_at_call 14; refine (sure_zero b _ hz).mono ?_; rintro e w' ⟨rfl, rfl⟩) | (go_at_call 24; refine (copy_zero b _ hz).mono ?_; rintro e w' ⟨rfl, rfl⟩))
            go_roundw
            case rel => exact Or.inr ⟨_, k + 1, rfl, by go_num, heap_at1 _, by omega, by omega, bel.alloc bel.size _⟩
            case measure => simp [intOf]; omega
          · go_wp2_with fail
            refine (works_any _).mono ?_; rintro e w' ⟨rfl, hb⟩
            go_wp2_with fail
            go_ret
            exact ⟨rfl, below_after bel hb⟩
end Go.Proofs.Ytkhjfknmjbffdaa
