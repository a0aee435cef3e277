/-
  The contracts of the methods on handshakes that are none: the nil pointer, and one that New has not made.
-/
import Derived.Test.YtkhjfknmjbffdaaWorks
namespace Go.Proofs.Ytkhjfknmjbffdaa
open Go.RowKit Go.Sort
set_option linter.unusedVariables false
set_option linter.unusedSimpArgs false
def noHand : HS := ⟨false, 0, 0, 0, false, false, false⟩
set_option maxHeartbeats 400000 in
theorem nothing_nil (w : World) : Calls Try.prog 33 #[.pointer none] w fun e w' => e = .returned (.bool true) ∧ w = w' := by
  go_enter Try.func33, Try.ntmps33
  go_wp2
  go_ret
  exact ⟨rfl, rfl⟩
set_option maxHeartbeats 400000 in
theorem nothing_zero (b : Nat) (w : World) (h : IsHand w b noHand) : Calls Try.prog 33 #[.pointer (some ⟨b, 0, none⟩)] w fun e w' => e = .returned (.bool true) ∧ w = w' := by
  have q := run_eqA
  obtain ⟨c0, c1, c2, c3, c4, c5, c6⟩ := h.cells
  simp only [noHand] at c0 c1 c2 c3 c4 c5 c6
  go_enter Try.func33, Try.ntmps33
  go_wp2
  go_ret
  exact ⟨rfl, rfl⟩
theorem space0 (w : World) : Calls Try.prog 35 #[.int .i64 0] w fun e w' => e = .returned (.bool true) ∧ w = w' := (isSpace_any 0 w).mono fun e w' ⟨h, k⟩ => ⟨by rw [h]; rfl, k⟩
theorem space2 (w : World) : Calls Try.prog 35 #[.int .i64 2] w fun e w' => e = .returned (.bool true) ∧ w = w' := (isSpace_any 2 w).mono fun e w' ⟨h, k⟩ => ⟨by rw [h]; rfl, k⟩
set_option maxHeartbeats 1000000 in
theorem needs_nil (s : Int) (w : World) : Calls Try.prog 32 #[.pointer none, .int .i64 s] w fun e w' => e = .returned (.int .i64 1) ∧ w = w' := by
  go_enter Try.func32, Try.ntmps32
  go_wp2_with (go_at_call 33; refine (nothing_nil _).mono ?_; rintro e w' ⟨rfl, rfl⟩)
  go_ret
  exact ⟨rfl, rfl⟩
set_option maxHeartbeats 1000000 in
theorem needs_zero (b : Nat) (s : Int) (w : World) (h : IsHand w b noHand) : Calls Try.prog 32 #[.pointer (some ⟨b, 0, none⟩), .int .i64 s] w fun e w' => e = .returned (.int .i64 1) ∧ w = w' := by
  go_enter Try.func32, Try.ntmps32
  go_wp2_with (go_at_call 33; refine (nothing_zero b _ h).mono ?_; rintro e w' ⟨rfl, rfl⟩)
  go_ret
  exact ⟨rfl, rfl⟩
set_option maxHeartbeats 1000000 in
theorem keys_nil (w : World) : Calls Try.prog 26 #[.pointer none, .int .i64 0] w fun e w' => e = .returned (.int .i64 1) ∧ w = w' := by
  go_enter Try.func26, Try.ntmps26
  go_wp2_with (first | (go_at_call 32; refine (needs_nil _ _).mono ?_; rintro e w' ⟨rfl, rfl⟩) | (go_at_call 33; refine (nothing_nil _).mono ?_; rintro e w' ⟨rfl, rfl⟩) | (go_at_call 35; refine (space0 _).mono ?_; rintro e w' ⟨rfl, rfl⟩) | (go_at_call 35; refine (space2 _).mono ?_; rintro e w' ⟨rfl, rfl⟩))
  go_ret
  exact ⟨rfl, rfl⟩
set_option maxHeartbeats 1000000 in
theorem keys_zero (b : Nat) (w : World) (h : IsHand w b noHand) : Calls Try.prog 26 #[.pointer (some ⟨b, 0, none⟩), .int .i64 0] w fun e w' => e = .returned (.int .i64 1) ∧ w = w' := by
  obtain ⟨c0, c1, c2, c3, c4, c5, c6⟩ := h.cells
  simp only [noHand] at c0 c1 c2 c3 c4 c5 c6
  go_enter Try.func26, Try.ntmps26
  go_wp2_with (first | (go_at_call 32; refine (needs_zero b _ _ h).mono ?_; rintro e w' ⟨rfl, rfl⟩) | (go_at_call 33; refine (nothing_zero b _ h).mono ?_; rintro e w' ⟨rfl, rfl⟩) | (go_at_call 35; refine (space0 _).mono ?_; rintro e w' ⟨rfl, rfl⟩) | (go_at_call 35; refine (space2 _).mono ?_; rintro e w' ⟨rfl, rfl⟩))
  go_ret
  exact ⟨rfl, rfl⟩
set_option maxHeartbeats 1000000 in
theorem disc_nil (w : World) : Calls Try.prog 29 #[.pointer none, .int .i64 0] w fun e w' => e = .returned (.int .i64 1) ∧ w = w' := by
  go_enter Try.func29, Try.ntmps29
  go_wp2_with (first | (go_at_call 32; refine (needs_nil _ _).mono ?_; rintro e w' ⟨rfl, rfl⟩) | (go_at_call 33; refine (nothing_nil _).mono ?_; rintro e w' ⟨rfl, rfl⟩) | (go_at_call 35; refine (space0 _).mono ?_; rintro e w' ⟨rfl, rfl⟩) | (go_at_call 35; refine (space2 _).mono ?_; rintro e w' ⟨rfl, rfl⟩))
  go_ret
  exact ⟨rfl, rfl⟩
set_option maxHeartbeats 1000000 in
theorem disc_zero (b : Nat) (w : World) (h : IsHand w b noHand) : Calls Try.prog 29 #[.pointer (some ⟨b, 0, none⟩), .int .i64 0] w fun e w' => e = .returned (.int .i64 1) ∧ w = w' := by
  obtain ⟨c0, c1, c2, c3, c4, c5, c6⟩ := h.cells
  simp only [noHand] at c0 c1 c2 c3 c4 c5 c6
  go_enter Try.func29, Try.ntmps29
  go_wp2_with (first | (go_at_call 32; refine (needs_zero b _ _ h).mono ?_; rintro e w' ⟨rfl, rfl⟩) | (go_at_call 33; refine (nothing_zero b _ h).mono ?_; rintro e w' ⟨rfl, rfl⟩) | (go_at_call 35; refine (space0 _).mono ?_; rintro e w' ⟨rfl, rfl⟩) | (go_at_call 35; refine (space2 _).mono ?_; rintro e w' ⟨rfl, rfl⟩))
  go_ret
  exact ⟨rfl, rfl⟩
set_option maxHeartbeats 1000000 in
theorem vali_nil (w : World) : Calls Try.prog 30 #[.pointer none] w fun e w' => e = .returned (.int .i64 1) ∧ w = w' := by
  go_enter Try.func30, Try.ntmps30
  go_wp2_with (first | (go_at_call 32; refine (needs_nil _ _).mono ?_; rintro e w' ⟨rfl, rfl⟩) | (go_at_call 33; refine (nothing_nil _).mono ?_; rintro e w' ⟨rfl, rfl⟩) | (go_at_call 35; refine (space0 _).mono ?_; rintro e w' ⟨rfl, rfl⟩) | (go_at_call 35; refine (space2 _).mono ?_; rintro e w' ⟨rfl, rfl⟩))
  go_ret
  exact ⟨rfl, rfl⟩
set_option maxHeartbeats 1000000 in
theorem vali_zero (b : Nat) (w : World) (h : IsHand w b noHand) : Calls Try.prog 30 #[.pointer (some ⟨b, 0, none⟩)] w fun e w' => e = .returned (.int .i64 1) ∧ w = w' := by
  obtain ⟨c0, c1, c2, c3, c4, c5, c6⟩ := h.cells
  simp only [noHand] at c0 c1 c2 c3 c4 c5 c6
  go_enter Try.func30, Try.ntmps30
  go_wp2_with (first | (go_at_call 32; refine (needs_zero b _ _ h).mono ?_; rintro e w' ⟨rfl, rfl⟩) | (go_at_call 33; refine (nothing_zero b _ h).mono ?_; rintro e w' ⟨rfl, rfl⟩) | (go_at_call 35; refine (space0 _).mono ?_; rintro e w' ⟨rfl, rfl⟩) | (go_at_call 35; refine (space2 _).mono ?_; rintro e w' ⟨rfl, rfl⟩))
  go_ret
  exact ⟨rfl, rfl⟩
set_option maxHeartbeats 1000000 in
theorem conf_nil (w : World) : Calls Try.prog 27 #[.pointer none] w fun e w' => e = .returned (.int .i64 1) ∧ w = w' := by
  go_enter Try.func27, Try.ntmps27
  go_wp2_with (first | (go_at_call 32; refine (needs_nil _ _).mono ?_; rintro e w' ⟨rfl, rfl⟩) | (go_at_call 33; refine (nothing_nil _).mono ?_; rintro e w' ⟨rfl, rfl⟩) | (go_at_call 35; refine (space0 _).mono ?_; rintro e w' ⟨rfl, rfl⟩) | (go_at_call 35; refine (space2 _).mono ?_; rintro e w' ⟨rfl, rfl⟩))
  go_ret
  exact ⟨rfl, rfl⟩
set_option maxHeartbeats 1000000 in
theorem conf_zero (b : Nat) (w : World) (h : IsHand w b noHand) : Calls Try.prog 27 #[.pointer (some ⟨b, 0, none⟩)] w fun e w' => e = .returned (.int .i64 1) ∧ w = w' := by
  obtain ⟨c0, c1, c2, c3, c4, c5, c6⟩ := h.cells
  simp only [noHand] at c0 c1 c2 c3 c4 c5 c6
  go_enter Try.func27, Try.ntmps27
  go_wp2_with (first | (go_at_call 32; refine (needs_zero b _ _ h).mono ?_; rintro e w' ⟨rfl, rfl⟩) | (go_at_call 33; refine (nothing_zero b _ h).mono ?_; rintro e w' ⟨rfl, rfl⟩) | (go_at_call 35; refine (space0 _).mono ?_; rintro e w' ⟨rfl, rfl⟩) | (go_at_call 35; refine (space2 _).mono ?_; rintro e w' ⟨rfl, rfl⟩))
  go_ret
  exact ⟨rfl, rfl⟩
set_option maxHeartbeats 1000000 in
theorem answ_nil (w : World) : Calls Try.prog 31 #[.pointer none, .int .i64 0] w fun e w' => e = .returned (.int .i64 1) ∧ w = w' := by
  go_enter Try.func31, Try.ntmps31
  go_wp2_with (first | (go_at_call 32; refine (needs_nil _ _).mono ?_; rintro e w' ⟨rfl, rfl⟩) | (go_at_call 33; refine (nothing_nil _).mono ?_; rintro e w' ⟨rfl, rfl⟩) | (go_at_call 35; refine (space0 _).mono ?_; rintro e w' ⟨rfl, rfl⟩) | (go_at_call 35; refine (space2 _).mono ?_; rintro e w' ⟨rfl, rfl⟩))
  go_ret
  exact ⟨rfl, rfl⟩
set_option maxHeartbeats 1000000 in
theorem answ_zero (b : Nat) (w : World) (h : IsHand w b noHand) : Calls Try.prog 31 #[.pointer (some ⟨b, 0, none⟩), .int .i64 0] w fun e w' => e = .returned (.int .i64 1) ∧ w = w' := by
  obtain ⟨c0, c1, c2, c3, c4, c5, c6⟩ := h.cells
  simp only [noHand] at c0 c1 c2 c3 c4 c5 c6
  go_enter Try.func31, Try.ntmps31
  go_wp2_with (first | (go_at_call 32; refine (needs_zero b _ _ h).mono ?_; rintro e w' ⟨rfl, rfl⟩) | (go_at_call 33; refine (nothing_zero b _ h).mono ?_; rintro e w' ⟨rfl, rfl⟩) | (go_at_call 35; refine (space0 _).mono ?_; rintro e w' ⟨rfl, rfl⟩) | (go_at_call 35; refine (space2 _).mono ?_; rintro e w' ⟨rfl, rfl⟩))
  go_ret
  exact ⟨rfl, rfl⟩
set_option maxHeartbeats 1000000 in
theorem lives_nil (w : World) : Calls Try.prog 12 #[.pointer none, .int .i64 0] w fun e w' => e = .returned (.bool false) ∧ w = w' := by
  go_enter Try.func12, Try.ntmps12
  go_wp2_with (first | (go_at_call 32; refine (needs_nil _ _).mono ?_; rintro e w' ⟨rfl, rfl⟩) | (go_at_call 33; refine (nothing_nil _).mono ?_; rintro e w' ⟨rfl, rfl⟩) | (go_at_call 35; refine (space0 _).mono ?_; rintro e w' ⟨rfl, rfl⟩) | (go_at_call 35; refine (space2 _).mono ?_; rintro e w' ⟨rfl, rfl⟩))
  go_ret
  exact ⟨rfl, rfl⟩
set_option maxHeartbeats 1000000 in
theorem lives_zero (b : Nat) (w : World) (h : IsHand w b noHand) : Calls Try.prog 12 #[.pointer (some ⟨b, 0, none⟩), .int .i64 0] w fun e w' => e = .returned (.bool false) ∧ w = w' := by
  obtain ⟨c0, c1, c2, c3, c4, c5, c6⟩ := h.cells
  simp only [noHand] at c0 c1 c2 c3 c4 c5 c6
  go_enter Try.func12, Try.ntmps12
  go_wp2_with (first | (go_at_call 32; refine (needs_zero b _ _ h).mono ?_; rintro e w' ⟨rfl, rfl⟩) | (go_at_call 33; refine (nothing_zero b _ h).mono ?_; rintro e w' ⟨rfl, rfl⟩) | (go_at_call 35; refine (space0 _).mono ?_; rintro e w' ⟨rfl, rfl⟩) | (go_at_call 35; refine (space2 _).mono ?_; rintro e w' ⟨rfl, rfl⟩))
  go_ret
  exact ⟨rfl, rfl⟩
set_option maxHeartbeats 1000000 in
theorem has_nil (w : World) : Calls Try.prog 19 #[.pointer none, .int .i64 0] w fun e w' => e = .returned (.bool false) ∧ w = w' := by
  go_enter Try.func19, Try.ntmps19
  go_wp2_with (first | (go_at_call 32; refine (needs_nil _ _).mono ?_; rintro e w' ⟨rfl, rfl⟩) | (go_at_call 33; refine (nothing_nil _).mono ?_; rintro e w' ⟨rfl, rfl⟩) | (go_at_call 35; refine (space0 _).mono ?_; rintro e w' ⟨rfl, rfl⟩) | (go_at_call 35; refine (space2 _).mono ?_; rintro e w' ⟨rfl, rfl⟩))
  go_ret
  exact ⟨rfl, rfl⟩
set_option maxHeartbeats 1000000 in
theorem has_zero (b : Nat) (w : World) (h : IsHand w b noHand) : Calls Try.prog 19 #[.pointer (some ⟨b, 0, none⟩), .int .i64 0] w fun e w' => e = .returned (.bool false) ∧ w = w' := by
  obtain ⟨c0, c1, c2, c3, c4, c5, c6⟩ := h.cells
  simp only [noHand] at c0 c1 c2 c3 c4 c5 c6
  go_enter Try.func19, Try.ntmps19
  go_wp2_with (first | (go_at_call 32; refine (needs_zero b _ _ h).mono ?_; rintro e w' ⟨rfl, rfl⟩) | (go_at_call 33; refine (nothing_zero b _ h).mono ?_; rintro e w' ⟨rfl, rfl⟩) | (go_at_call 35; refine (space0 _).mono ?_; rintro e w' ⟨rfl, rfl⟩) | (go_at_call 35; refine (space2 _).mono ?_; rintro e w' ⟨rfl, rfl⟩))
  go_ret
  exact ⟨rfl, rfl⟩
set_option maxHeartbeats 1000000 in
theorem valid_nil (w : World) : Calls Try.prog 15 #[.pointer none] w fun e w' => e = .returned (.bool false) ∧ w = w' := by
  go_enter Try.func15, Try.ntmps15
  go_wp2_with (first | (go_at_call 32; refine (needs_nil _ _).mono ?_; rintro e w' ⟨rfl, rfl⟩) | (go_at_call 33; refine (nothing_nil _).mono ?_; rintro e w' ⟨rfl, rfl⟩) | (go_at_call 35; refine (space0 _).mono ?_; rintro e w' ⟨rfl, rfl⟩) | (go_at_call 35; refine (space2 _).mono ?_; rintro e w' ⟨rfl, rfl⟩))
  go_ret
  exact ⟨rfl, rfl⟩
set_option maxHeartbeats 1000000 in
theorem valid_zero (b : Nat) (w : World) (h : IsHand w b noHand) : Calls Try.prog 15 #[.pointer (some ⟨b, 0, none⟩)] w fun e w' => e = .returned (.bool false) ∧ w = w' := by
  obtain ⟨c0, c1, c2, c3, c4, c5, c6⟩ := h.cells
  simp only [noHand] at c0 c1 c2 c3 c4 c5 c6
  go_enter Try.func15, Try.ntmps15
  go_wp2_with (first | (go_at_call 32; refine (needs_zero b _ _ h).mono ?_; rintro e w' ⟨rfl, rfl⟩) | (go_at_call 33; refine (nothing_zero b _ h).mono ?_; rintro e w' ⟨rfl, rfl⟩) | (go_at_call 35; refine (space0 _).mono ?_; rintro e w' ⟨rfl, rfl⟩) | (go_at_call 35; refine (space2 _).mono ?_; rintro e w' ⟨rfl, rfl⟩))
  go_ret
  exact ⟨rfl, rfl⟩
set_option maxHeartbeats 1000000 in
theorem confd_nil (w : World) : Calls Try.prog 16 #[.pointer none] w fun e w' => e = .returned (.bool false) ∧ w = w' := by
  go_enter Try.func16, Try.ntmps16
  go_wp2_with (first | (go_at_call 32; refine (needs_nil _ _).mono ?_; rintro e w' ⟨rfl, rfl⟩) | (go_at_call 33; refine (nothing_nil _).mono ?_; rintro e w' ⟨rfl, rfl⟩) | (go_at_call 35; refine (space0 _).mono ?_; rintro e w' ⟨rfl, rfl⟩) | (go_at_call 35; refine (space2 _).mono ?_; rintro e w' ⟨rfl, rfl⟩))
  go_ret
  exact ⟨rfl, rfl⟩
set_option maxHeartbeats 1000000 in
theorem confd_zero (b : Nat) (w : World) (h : IsHand w b noHand) : Calls Try.prog 16 #[.pointer (some ⟨b, 0, none⟩)] w fun e w' => e = .returned (.bool false) ∧ w = w' := by
  obtain ⟨c0, c1, c2, c3, c4, c5, c6⟩ := h.cells
  simp only [noHand] at c0 c1 c2 c3 c4 c5 c6
  go_enter Try.func16, Try.ntmps16
  go_wp2_with (first | (go_at_call 32; refine (needs_zero b _ _ h).mono ?_; rintro e w' ⟨rfl, rfl⟩) | (go_at_call 33; refine (nothing_zero b _ h).mono ?_; rintro e w' ⟨rfl, rfl⟩) | (go_at_call 35; refine (space0 _).mono ?_; rintro e w' ⟨rfl, rfl⟩) | (go_at_call 35; refine (space2 _).mono ?_; rintro e w' ⟨rfl, rfl⟩))
  go_ret
  exact ⟨rfl, rfl⟩
set_option maxHeartbeats 1000000 in
theorem sure_nil (w : World) : Calls Try.prog 14 #[.pointer none] w fun e w' => e = .returned (.bool false) ∧ w = w' := by
  go_enter Try.func14, Try.ntmps14
  go_wp2_with (first | (go_at_call 32; refine (needs_nil _ _).mono ?_; rintro e w' ⟨rfl, rfl⟩) | (go_at_call 33; refine (nothing_nil _).mono ?_; rintro e w' ⟨rfl, rfl⟩) | (go_at_call 35; refine (space0 _).mono ?_; rintro e w' ⟨rfl, rfl⟩) | (go_at_call 35; refine (space2 _).mono ?_; rintro e w' ⟨rfl, rfl⟩))
  go_ret
  exact ⟨rfl, rfl⟩
set_option maxHeartbeats 1000000 in
theorem sure_zero (b : Nat) (w : World) (h : IsHand w b noHand) : Calls Try.prog 14 #[.pointer (some ⟨b, 0, none⟩)] w fun e w' => e = .returned (.bool false) ∧ w = w' := by
  obtain ⟨c0, c1, c2, c3, c4, c5, c6⟩ := h.cells
  simp only [noHand] at c0 c1 c2 c3 c4 c5 c6
  go_enter Try.func14, Try.ntmps14
  go_wp2_with (first | (go_at_call 32; refine (needs_zero b _ _ h).mono ?_; rintro e w' ⟨rfl, rfl⟩) | (go_at_call 33; refine (nothing_zero b _ h).mono ?_; rintro e w' ⟨rfl, rfl⟩) | (go_at_call 35; refine (space0 _).mono ?_; rintro e w' ⟨rfl, rfl⟩) | (go_at_call 35; refine (space2 _).mono ?_; rintro e w' ⟨rfl, rfl⟩))
  go_ret
  exact ⟨rfl, rfl⟩
set_option maxHeartbeats 1000000 in
theorem copy_nil (w : World) : Calls Try.prog 24 #[.pointer none] w fun e w' => e = .returned (.pointer none) ∧ w = w' := by
  go_enter Try.func24, Try.ntmps24
  go_wp2_with (first | (go_at_call 32; refine (needs_nil _ _).mono ?_; rintro e w' ⟨rfl, rfl⟩) | (go_at_call 33; refine (nothing_nil _).mono ?_; rintro e w' ⟨rfl, rfl⟩) | (go_at_call 35; refine (space0 _).mono ?_; rintro e w' ⟨rfl, rfl⟩) | (go_at_call 35; refine (space2 _).mono ?_; rintro e w' ⟨rfl, rfl⟩))
  go_ret
  exact ⟨rfl, rfl⟩
set_option maxHeartbeats 1000000 in
theorem copy_zero (b : Nat) (w : World) (h : IsHand w b noHand) : Calls Try.prog 24 #[.pointer (some ⟨b, 0, none⟩)] w fun e w' => e = .returned (.pointer none) ∧ w = w' := by
  obtain ⟨c0, c1, c2, c3, c4, c5, c6⟩ := h.cells
  simp only [noHand] at c0 c1 c2 c3 c4 c5 c6
  go_enter Try.func24, Try.ntmps24
  go_wp2_with (first | (go_at_call 32; refine (needs_zero b _ _ h).mono ?_; rintro e w' ⟨rfl, rfl⟩) | (go_at_call 33; refine (nothing_zero b _ h).mono ?_; rintro e w' ⟨rfl, rfl⟩) | (go_at_call 35; refine (space0 _).mono ?_; rintro e w' ⟨rfl, rfl⟩) | (go_at_call 35; refine (space2 _).mono ?_; rintro e w' ⟨rfl, rfl⟩))
  go_ret
  exact ⟨rfl, rfl⟩
set_option maxHeartbeats 1000000 in
theorem livesS_nil (s : Int) (w : World) : Calls Try.prog 12 #[.pointer none, .int .i64 s] w fun e w' => e = .returned (.bool false) ∧ w = w' := by
  go_enter Try.func12, Try.ntmps12
  go_wp2_with (go_at_call 32; refine (needs_nil _ _).mono ?_; rintro e w' ⟨rfl, rfl⟩)
  go_ret
  exact ⟨rfl, rfl⟩
set_option maxHeartbeats 1000000 in
theorem live_nil (w : World) : Calls Try.prog 21 #[.pointer none] w fun e w' => e = .returned (.slice none 0 0) ∧ w = w' := by
  go_enter Try.func21, Try.ntmps21
  go_wp2_with fail
  go_loopw [2, 4] (fun v i wr => ∃ k : Nat, v = .slice none 0 0 ∧ i = .int .i64 (k : Int) ∧ k ≤ 3 ∧ w = wr) (fun _ i _ => (3 - intOf i).toNat)
  case atStart => exact ⟨0, rfl, rfl, by omega, rfl⟩
  case round =>
    obtain ⟨k, rfl, rfl, hk3, rfl⟩ := hrel
    by_cases hlt : k < 3
    · go_wp2_with fail
      refine (livesS_nil (k : Int) _).mono ?_; rintro e w' ⟨rfl, rfl⟩
      go_wp2_with fail
      go_roundw
      case rel => exact ⟨k + 1, rfl, by go_num, by omega, trivial⟩
      case measure => simp [intOf]; omega
    · have : k = 3 := by omega
      subst this
      go_wp2
      go_ret
      exact ⟨rfl, rfl⟩
set_option maxHeartbeats 1000000 in
theorem livesS_zero (b : Nat) (s : Int) (w : World) (h : IsHand w b noHand) : Calls Try.prog 12 #[.pointer (some ⟨b, 0, none⟩), .int .i64 s] w fun e w' => e = .returned (.bool false) ∧ w = w' := by
  go_enter Try.func12, Try.ntmps12
  go_wp2_with (go_at_call 32; refine (needs_zero b _ _ h).mono ?_; rintro e w' ⟨rfl, rfl⟩)
  go_ret
  exact ⟨rfl, rfl⟩
set_option maxHeartbeats 1000000 in
theorem live_zero (b : Nat) (w : World) (h : IsHand w b noHand) : Calls Try.prog 21 #[.pointer (some ⟨b, 0, none⟩)] w fun e w' => e = .returned (.slice none 0 0) ∧ w = w' := by
  go_enter Try.func21, Try.ntmps21
  go_wp2_with fail
  go_loopw [2, 4] (fun v i wr => ∃ k : Nat, v = .slice none 0 0 ∧ i = .int .i64 (k : Int) ∧ k ≤ 3 ∧ w = wr) (fun _ i _ => (3 - intOf i).toNat)
  case atStart => exact ⟨0, rfl, rfl, by omega, rfl⟩
  case round =>
    obtain ⟨k, rfl, rfl, hk3, rfl⟩ := hrel
    by_cases hlt : k < 3
    · go_wp2_with fail
      refine (livesS_zero b (k : Int) _ h).mono ?_; rintro e w' ⟨rfl, rfl⟩
      go_wp2_with fail
      go_roundw
      case rel => exact ⟨k + 1, rfl, by go_num, by omega, trivial⟩
      case measure => simp [intOf]; omega
    · have : k = 3 := by omega
      subst this
      go_wp2
      go_ret
      exact ⟨rfl, rfl⟩
end Go.Proofs.Ytkhjfknmjbffdaa
