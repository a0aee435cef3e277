/-
  The contracts of the smallest functions of layer 19: Check, may, with, and the document's own of these.
-/
import Derived.Test.YtfebopgljcagnaaProg
import Derived.WalkKit
import Derived.WalkSpells
import Derived.WalkLawsBesides
import Derived.Handy
import Derived.Below
namespace Go.Proofs.Ytfebopgljcagnaa
open Go.RowKit
set_option linter.unusedVariables false
set_option linter.unusedSimpArgs false

theorem bcell {W w1 : World} (hb : Below W.heap.size W w1) : (∀ b o, b < W.heap.size → w1.cell? ⟨b, o, none⟩ = W.cell? ⟨b, o, none⟩) ∧ (∀ b o, b < W.heap.size → w1.frozen? ⟨b, o, none⟩ = W.frozen? ⟨b, o, none⟩) :=
  ⟨fun b o h => hb.cell (p := ⟨b, o, none⟩) h, fun b o h => hb.frozen (p := ⟨b, o, none⟩) h⟩

theorem bcellD {W w1 : World} (hb : Below W.drew.heap.size W.drew w1) : (∀ b o, b < W.heap.size → w1.cell? ⟨b, o, none⟩ = W.cell? ⟨b, o, none⟩) ∧ (∀ b o, b < W.heap.size → w1.frozen? ⟨b, o, none⟩ = W.frozen? ⟨b, o, none⟩) :=
  ⟨fun b o h => hb.cell (p := ⟨b, o, none⟩) h, fun b o h => hb.frozen (p := ⟨b, o, none⟩) h⟩

/-- What may be left. -/
def ok3 (a b c : Int) : Prop := 0 ≤ a ∧ a ≤ 2 ∧ 0 ≤ b ∧ b ≤ 2 ∧ 0 ≤ c ∧ c ≤ 2
instance (a b c : Int) : Decidable (ok3 a b c) := inferInstanceAs (Decidable (0 ≤ a ∧ a ≤ 2 ∧ 0 ≤ b ∧ b ≤ 2 ∧ 0 ≤ c ∧ c ≤ 2))

set_option maxHeartbeats 400000 in
theorem check_ok (a b c : Int) (w : World) (h : ok3 a b c) :
    Calls Try.prog 16 #[.agg #[.int .i64 a, .int .i64 b, .int .i64 c]] w fun e w' => e = .returned (.int .i64 0) ∧ Below w.heap.size w w' := by
  obtain ⟨a0, a1, b0, b1, c0, c1⟩ := h
  go_enter Try.func16, Try.ntmps16
  go_wp2
  go_rounds 4
  go_ret
  exact ⟨rfl, (Below.refl _ _).alloc (Nat.le_refl _) _⟩

set_option maxHeartbeats 400000 in
theorem check_bad (a b c : Int) (w : World) (h : ¬ ok3 a b c) :
    Calls Try.prog 16 #[.agg #[.int .i64 a, .int .i64 b, .int .i64 c]] w fun e w' => e = .returned (.int .i64 2) ∧ Below w.heap.size w w' := by
  unfold ok3 at h
  go_enter Try.func16, Try.ntmps16
  go_wp2
  go_rounds 4
  all_goals first
    | (exfalso; omega)
    | (go_ret; exact ⟨rfl, (Below.refl _ _).alloc (Nat.le_refl _) _⟩)

set_option maxHeartbeats 400000 in
theorem rcheck_ok (a b c : Int) (w : World) (h : ok3 a b c) :
    Calls Try.prog 17 #[.agg #[.int .i64 a, .int .i64 b, .int .i64 c]] w fun e w' => e = .returned (.int .i64 0) ∧ Below w.heap.size w w' := by
  obtain ⟨a0, a1, b0, b1, c0, c1⟩ := h
  go_enter Try.func17, Try.ntmps17
  go_wp2
  go_rounds 4
  go_ret
  exact ⟨rfl, (Below.refl _ _).alloc (Nat.le_refl _) _⟩

set_option maxHeartbeats 400000 in
theorem rcheck_bad (a b c : Int) (w : World) (h : ¬ ok3 a b c) :
    Calls Try.prog 17 #[.agg #[.int .i64 a, .int .i64 b, .int .i64 c]] w fun e w' => e = .returned (.int .i64 2) ∧ Below w.heap.size w w' := by
  unfold ok3 at h
  go_enter Try.func17, Try.ntmps17
  go_wp2
  go_rounds 4
  all_goals first
    | (exfalso; omega)
    | (go_ret; exact ⟨rfl, (Below.refl _ _).alloc (Nat.le_refl _) _⟩)

set_option maxHeartbeats 400000 in
theorem may_bad (a b c s : Int) (w : World) (h : ¬ ok3 a b c) :
    Calls Try.prog 25 #[.agg #[.int .i64 a, .int .i64 b, .int .i64 c], .int .i64 s] w fun e w' => e = .returned (.int .i64 2) ∧ Below w.heap.size w w' := by
  go_enter Try.func25, Try.ntmps25
  go_wp2_with (go_at_call 16; refine (check_bad _ _ _ _ h).mono ?_; rintro e w1 ⟨rfl, hb⟩)
  go_ret
  exact ⟨rfl, ((Below.refl _ _).alloc (Nat.le_refl _) _).trans (hb.mono (by simp))⟩

set_option maxHeartbeats 400000 in
theorem may_space (a b c s : Int) (w : World) (h : ok3 a b c) (hs : s < 0 ∨ 3 ≤ s) :
    Calls Try.prog 25 #[.agg #[.int .i64 a, .int .i64 b, .int .i64 c], .int .i64 s] w fun e w' => e = .returned (.int .i64 160) ∧ Below w.heap.size w w' := by
  go_enter Try.func25, Try.ntmps25
  rcases hs with hs | hs
  all_goals
    go_wp2_with (go_at_call 16; refine (check_ok _ _ _ _ h).mono ?_; rintro e w1 ⟨rfl, hb⟩)
    go_ret
    exact ⟨rfl, ((Below.refl _ _).alloc (Nat.le_refl _) _).trans (hb.mono (by simp))⟩

set_option maxHeartbeats 400000 in
theorem may_ok (a b c s : Int) (w : World) (h : ok3 a b c) (h0 : 0 ≤ s) (h1 : s < 3) :
    Calls Try.prog 25 #[.agg #[.int .i64 a, .int .i64 b, .int .i64 c], .int .i64 s] w fun e w' => e = .returned (.int .i64 0) ∧ Below w.heap.size w w' := by
  go_enter Try.func25, Try.ntmps25
  go_wp2_with (go_at_call 16; refine (check_ok _ _ _ _ h).mono ?_; rintro e w1 ⟨rfl, hb⟩)
  go_ret
  exact ⟨rfl, ((Below.refl _ _).alloc (Nat.le_refl _) _).trans (hb.mono (by simp))⟩

set_option maxHeartbeats 400000 in
theorem rmay_bad (a b c s : Int) (w : World) (h : ¬ ok3 a b c) :
    Calls Try.prog 27 #[.agg #[.int .i64 a, .int .i64 b, .int .i64 c], .int .i64 s] w fun e w' => e = .returned (.int .i64 2) ∧ Below w.heap.size w w' := by
  go_enter Try.func27, Try.ntmps27
  go_wp2_with (go_at_call 17; refine (rcheck_bad _ _ _ _ h).mono ?_; rintro e w1 ⟨rfl, hb⟩)
  go_ret
  exact ⟨rfl, ((Below.refl _ _).alloc (Nat.le_refl _) _).trans (hb.mono (by simp))⟩

set_option maxHeartbeats 400000 in
theorem rmay_space (a b c s : Int) (w : World) (h : ok3 a b c) (hs : s < 0 ∨ 3 ≤ s) :
    Calls Try.prog 27 #[.agg #[.int .i64 a, .int .i64 b, .int .i64 c], .int .i64 s] w fun e w' => e = .returned (.int .i64 160) ∧ Below w.heap.size w w' := by
  go_enter Try.func27, Try.ntmps27
  rcases hs with hs | hs
  all_goals
    go_wp2_with (go_at_call 17; refine (rcheck_ok _ _ _ _ h).mono ?_; rintro e w1 ⟨rfl, hb⟩)
    go_ret
    exact ⟨rfl, ((Below.refl _ _).alloc (Nat.le_refl _) _).trans (hb.mono (by simp))⟩

set_option maxHeartbeats 400000 in
theorem rmay_ok (a b c s : Int) (w : World) (h : ok3 a b c) (h0 : 0 ≤ s) (h1 : s < 3) :
    Calls Try.prog 27 #[.agg #[.int .i64 a, .int .i64 b, .int .i64 c], .int .i64 s] w fun e w' => e = .returned (.int .i64 0) ∧ Below w.heap.size w w' := by
  go_enter Try.func27, Try.ntmps27
  go_wp2_with (go_at_call 17; refine (rcheck_ok _ _ _ _ h).mono ?_; rintro e w1 ⟨rfl, hb⟩)
  go_ret
  exact ⟨rfl, ((Below.refl _ _).alloc (Nat.le_refl _) _).trans (hb.mono (by simp))⟩

/-- What is left, with another number in a space. -/
def setA (a s n : Int) : Int := if s = 0 then n else a
def setB (b s n : Int) : Int := if s = 1 then n else b
def setC (c s n : Int) : Int := if s = 2 then n else c
def getS (a b c s : Int) : Int := if s = 0 then a else if s = 1 then b else c

set_option maxHeartbeats 400000 in
theorem with_any (a b c s n : Int) (w : World) (h0 : 0 ≤ s) (h1 : s < 3) :
    Calls Try.prog 26 #[.agg #[.int .i64 a, .int .i64 b, .int .i64 c], .int .i64 s, .int .i64 n] w fun e w' =>
      e = .returned (.agg #[.int .i64 (setA a s n), .int .i64 (setB b s n), .int .i64 (setC c s n)]) ∧ Below w.heap.size w w' := by
  obtain rfl | rfl | rfl : s = 0 ∨ s = 1 ∨ s = 2 := by omega
  all_goals
    go_enter Try.func26, Try.ntmps26
    go_wp2
    go_returns
    refine ⟨rfl, ?_⟩
    go_grown

set_option maxHeartbeats 400000 in
theorem set_any (a b c s n : Int) (w : World) (h0 : 0 ≤ s) (h1 : s < 3) :
    Calls Try.prog 28 #[.agg #[.int .i64 a, .int .i64 b, .int .i64 c], .int .i64 s, .int .i64 n] w fun e w' =>
      e = .returned (.agg #[.int .i64 (setA a s n), .int .i64 (setB b s n), .int .i64 (setC c s n)]) ∧ Below w.heap.size w w' := by
  obtain rfl | rfl | rfl : s = 0 ∨ s = 1 ∨ s = 2 := by omega
  all_goals
    go_enter Try.func28, Try.ntmps28
    go_wp2
    go_returns
    refine ⟨rfl, ?_⟩
    go_grown

set_option maxHeartbeats 400000 in
theorem own_any (a b c : Int) (w : World) :
    Calls Try.prog 11 #[.agg #[.int .i64 a, .int .i64 b, .int .i64 c]] w fun e w' => e = .returned (.agg #[.int .i64 a, .int .i64 b, .int .i64 c]) ∧ Below w.heap.size w w' := by
  go_enter Try.func11, Try.ntmps11
  go_wp2
  go_returns
  refine ⟨rfl, ?_⟩
  go_grown

set_option maxHeartbeats 400000 in
theorem bring_any (i n : Int) (w : World) (i0 : -9223372036854775808 ≤ i) (i1 : i ≤ 9223372036854775807) (n0 : 0 < n) (n1 : n ≤ 9223372036854775807) :
    Calls Try.prog 23 #[.int .i64 i, .int .i64 n] w fun e w' => e = .returned (.int .i64 (i % n)) ∧ w = w' := by
  have hn : ¬ n = 0 := by omega
  have m0 := Int.emod_nonneg i hn
  have m1 := Int.emod_lt_of_pos i n0
  have he : i.tmod n = i % n - (if 0 ≤ i ∨ n ∣ i then 0 else (n.natAbs : Int)) := by
    have := @Int.tmod_eq_emod i n
    rw [this]; split <;> simp
  have hd : n ∣ i → i % n = 0 := fun h => Int.emod_eq_zero_of_dvd h
  have hd' : ¬ (n ∣ i) → 0 < i % n := fun h => by
    have : i % n ≠ 0 := fun e => h (Int.dvd_of_emod_eq_zero e)
    omega
  have hna : (n.natAbs : Int) = n := by omega
  rw [hna] at he
  by_cases hc : 0 ≤ i ∨ n ∣ i
  · rw [if_pos hc] at he
    have hlt : ¬ i % n < 0 := by omega
    clear hd hd' hna
    simp only [Int.sub_zero] at he
    clear hc
    go_enter Try.func23, Try.ntmps23
    go_wp2
    go_ret
    exact ⟨rfl, rfl⟩
  · rw [if_neg hc] at he
    have hp : 0 < i % n := hd' (fun h => hc (Or.inr h))
    have hlt : i % n - n < 0 := by omega
    have hs : i % n - n + n = i % n := by omega
    clear hd hd' hna hc
    go_enter Try.func23, Try.ntmps23
    go_wp2
    go_ret
    exact ⟨rfl, rfl⟩

end Go.Proofs.Ytfebopgljcagnaa
