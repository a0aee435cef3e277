/-
  The walk of ProbeFirst: it answers true whatever is left, and turns nothing that was there.
-/
import Derived.Test.YtfebopgljcagnaaTwice
namespace Go.Proofs.Ytfebopgljcagnaa
open Go.RowKit Go.Sort
set_option linter.unusedVariables false
set_option linter.unusedSimpArgs false

theorem hide {p : Prop} (h : p) : Hid p := h
/-- The cells of a block of three numbers can be written. -/
def Free3 (w : World) (b : Nat) : Prop := w.frozen? ⟨b, 0, none⟩ = false ∧ w.frozen? ⟨b, 1, none⟩ = false ∧ w.frozen? ⟨b, 2, none⟩ = false
theorem Free3.keep {W w' : World} {b : Nat} (h : Free3 W b) (hb : Below W.heap.size W w') (hl : b < W.heap.size) : Free3 w' b :=
  ⟨(hb.frozen (p := ⟨b, 0, none⟩) hl).trans h.1, (hb.frozen (p := ⟨b, 1, none⟩) hl).trans h.2.1, (hb.frozen (p := ⟨b, 2, none⟩) hl).trans h.2.2⟩
theorem Free3.alloc {W : World} {b : Nat} (h : Free3 W b) (o : Obj) (hl : b < W.heap.size) : Free3 (W.alloc o) b := h.keep (below_alloc1 W o) hl
theorem Free3.made (w : World) (x y z : Int) (t : TypeId) : Free3 (w.alloc (.cells #[.int .i64 x, .int .i64 y, .int .i64 z] t)) w.heap.size := by
  refine ⟨?_, ?_, ?_⟩ <;> simp [go_sem]
theorem Is3.stored (w : World) (b : Nat) (x y z : Int) {p q r : Int} (h : Is3 w b p q r) : Is3 (((w.setCell ⟨b, 0, none⟩ (.int .i64 x)).setCell ⟨b, 1, none⟩ (.int .i64 y)).setCell ⟨b, 2, none⟩ (.int .i64 z)) b x y z := by
  obtain ⟨h0, h1, h2⟩ := h
  refine ⟨?_, ?_, ?_⟩ <;> simp [go_sem, h0, h1, h2]
theorem Free3.stored (w : World) (b : Nat) (x y z : Value) (h : Free3 w b) : Free3 (((w.setCell ⟨b, 0, none⟩ x).setCell ⟨b, 1, none⟩ y).setCell ⟨b, 2, none⟩ z) b := by
  obtain ⟨h0, h1, h2⟩ := h
  refine ⟨?_, ?_, ?_⟩ <;> simp [go_sem, h0, h1, h2]

/-- What a round of ProbeFirst's loop keeps: B holds what is left; so many are left as rounds are to come; all spaces ahead of 'last' are empty. -/
def FRel (w : World) (B : Nat) (many : Int) (last i : Value) (wr : World) : Prop :=
  ∃ x y z l k : Int, last = .int .i64 l ∧ i = .int .i64 k ∧ 0 ≤ k ∧ ok3 x y z ∧ x + y + z = many - k ∧ 0 ≤ l ∧ l ≤ 2 ∧ (1 ≤ l → x = 0) ∧ (2 ≤ l → y = 0) ∧ Is3 wr B x y z ∧ Free3 wr B ∧ Below w.heap.size w wr

theorem next_of {x y z l : Int} (h : ok3 x y z) (hp : 0 < x + y + z) (hl : l ≤ 2) (hx : 1 ≤ l → x = 0) (hy : 2 ≤ l → y = 0) :
    ∃ v, firV x y z = v ∧ 0 ≤ v ∧ v < 3 ∧ 1 ≤ getS x y z v ∧ l ≤ v ∧ (1 ≤ v → x = 0) ∧ (2 ≤ v → y = 0) := by
  have hok := h
  obtain ⟨a0, a1, b0, b1, c0, c1⟩ := h
  unfold firV
  rw [if_pos hok]
  by_cases h1 : 0 < x
  · refine ⟨0, by rw [if_pos h1], by omega, by omega, ?_, ?_, by omega, by omega⟩
    · unfold getS; simp; omega
    · by_cases hl' : 1 ≤ l
      · have := hx hl'; omega
      · omega
  · by_cases h2 : 0 < y
    · refine ⟨1, by rw [if_neg h1, if_pos h2], by omega, by omega, ?_, ?_, by omega, by omega⟩
      · unfold getS; simp; omega
      · by_cases hl' : 2 ≤ l
        · have := hy hl'; omega
        · omega
    · refine ⟨2, by rw [if_neg h1, if_neg h2, if_pos (by omega)], by omega, by omega, ?_, by omega, by omega, by omega⟩
      unfold getS; simp; omega
theorem took_of {x y z v : Int} (h : ok3 x y z) (v0 : 0 ≤ v) (v1 : v < 3) (hg : 1 ≤ getS x y z v) (hx : 1 ≤ v → x = 0) (hy : 2 ≤ v → y = 0) :
    ok3 (setA x v (getS x y z v - 1)) (setB y v (getS x y z v - 1)) (setC z v (getS x y z v - 1)) ∧
    setA x v (getS x y z v - 1) + setB y v (getS x y z v - 1) + setC z v (getS x y z v - 1) = x + y + z - 1 ∧ (1 ≤ v → setA x v (getS x y z v - 1) = 0) ∧ (2 ≤ v → setB y v (getS x y z v - 1) = 0) := by
  obtain ⟨a0, a1, b0, b1, c0, c1⟩ := h
  obtain rfl | rfl | rfl : v = 0 ∨ v = 1 ∨ v = 2 := by omega
  all_goals
    simp [ok3, setA, setB, setC, getS] at *
    omega

set_option maxHeartbeats 4000000 in
theorem first_core (n : Int) (w : World) (n0 : -9223372036854775808 ≤ n) (n1 : n ≤ 9223372036854775807) :
    Calls Try.prog 7 #[.int .i64 n] w fun e w' => e = .returned (.bool true) ∧ Below w.heap.size w w' := by
  have qe := run_eqA 23 Try.underlying23
  go_enter Try.func7, Try.ntmps7
  go_wp2_with fail
  refine (bring_any n 27 _ n0 n1 (by omega) (by omega)).mono ?_; rintro e w' ⟨rfl, rfl⟩
  have N0 : 0 ≤ n % 27 := Int.emod_nonneg _ (by omega)
  have N1 : n % 27 < 27 := Int.emod_lt_of_pos _ (by omega)
  generalize n % 27 = N at *
  clear n0 n1
  have hok := ok_of_num N N0 N1
  go_wp2_with fail
  generalize N % 3 = X at *
  generalize N / 3 % 3 = Y at *
  generalize N / 9 = Z at *
  have hok2 := hok
  obtain ⟨a0, a1, b0, b1, c0, c1⟩ := hok2
  obtain ⟨M, hM⟩ : ∃ M, M = X + Y + Z := ⟨_, rfl⟩
  have hM0 : 0 ≤ M := by omega
  have hM1 : M ≤ 6 := by omega
  have hall : allV X Y Z = M := by unfold allV; rw [if_pos hok, hM]
  have c := works_all X Y Z M (w.alloc (Obj.cells #[.int .i64 X, .int .i64 Y, .int .i64 Z] 23)) hall
  have HM : Hid (M = X + Y + Z) := hM
  clear hall hM
  refine c.mono ?_; rintro e w1 ⟨rfl, hb⟩
  clear c
  have k3 := (Is3.made w X Y Z 23).keep hb
  have f3 := (Free3.made w X Y Z 23).keep hb (by simp)
  have bel : Below w.heap.size w w1 := below_after (below_alloc1 _ _) hb
  clear hb
  go_wp2_with fail
  go_loopw [5, 6] (FRel w w.heap.size M) (fun _ i _ => (M - intOf i).toNat)
  case atStart => exact ⟨X, Y, Z, 0, 0, rfl, rfl, by omega, hok, by have := HM.out; omega, by omega, by omega, by omega, by omega, k3, f3, bel⟩
  case round =>
    obtain ⟨x, y, z, l, k, rfl, rfl, k0, hok, hs, l0, l2, hx, hy, k3, f3, bel⟩ := hrel
    by_cases hlt : k < M
    · obtain ⟨v, hF, v0, v3, hg, lv, vx, vy⟩ := next_of hok (by omega) l2 hx hy
      obtain ⟨tok, tsum, tx, ty⟩ := took_of hok v0 v3 hg vx vy
      have HS : Hid (x + y + z = M - k) := hs
      have HF : Hid (firV x y z = v) := hF
      have HR := hide (And.intro hx (And.intro hy (And.intro vx vy)))
      have hg0 : getS x y z v ≠ 0 := by omega
      have HG : Hid (getS x y z v ≠ 0) := hg0
      clear hs hF hx hy vx vy hg0
      obtain ⟨A, hA⟩ : ∃ A, A = setA x v (getS x y z v - 1) := ⟨_, rfl⟩
      obtain ⟨B, hB⟩ : ∃ B, B = setB y v (getS x y z v - 1) := ⟨_, rfl⟩
      obtain ⟨C, hC⟩ : ∃ C, C = setC z v (getS x y z v - 1) := ⟨_, rfl⟩
      rw [← hA, ← hB, ← hC] at tok tsum
      rw [← hA] at tx
      rw [← hB] at ty
      have HE := hide (And.intro hA (And.intro hB (And.intro hC (And.intro tsum (And.intro tx ty)))))
      clear hA hB hC tsum tx ty
      have hall : allV A B C = M - k - 1 := by
        have := HE.out.2.2.2.1; have := HS.out
        unfold allV; rw [if_pos tok]; omega
      have HALL : Hid (allV A B C = M - k - 1) := hall
      clear hall
      have k3a := k3.1; have k3b := k3.2.1; have k3c := k3.2.2; have k3l := k3.lt
      go_wp2_with fail
      refine (works_first x y z v _ HF.out).mono ?_; rintro e q1 ⟨rfl, hb⟩
      replace bel := below_after bel hb
      replace f3 := f3.keep hb k3.lt
      replace k3 := k3.keep hb
      clear hb k3a k3b k3c k3l
      have k3a := k3.1; have k3b := k3.2.1; have k3c := k3.2.2; have k3l := k3.lt
      go_wp2_with fail
      refine (take_ok x y z v _ hok v0 v3 HG.out).mono ?_; rintro e q2 ⟨rfl, hb⟩
      rw [← HE.out.1, ← HE.out.2.1, ← HE.out.2.2.1]
      replace bel := below_after bel hb
      replace f3 := f3.keep hb k3.lt
      replace k3 := k3.keep hb
      clear hb k3a k3b k3c k3l
      have k3a := k3.1; have k3b := k3.2.1; have k3c := k3.2.2; have k3l := k3.lt
      go_wp2_with fail
      have k8 := Is3.made q2 A B C 23
      refine (works_all A B C (M - k - 1) _ HALL.out).mono ?_; rintro e q3 ⟨rfl, hb⟩
      replace bel := below_after (bel.alloc bel.size (Obj.cells #[.int .i64 A, .int .i64 B, .int .i64 C] 23)) hb
      replace f3 := (f3.alloc (Obj.cells #[.int .i64 A, .int .i64 B, .int .i64 C] 23) k3.lt).keep hb (by have := k3.lt; simp; omega)
      replace k3 := (k3.alloc (Obj.cells #[.int .i64 A, .int .i64 B, .int .i64 C] 23)).keep hb
      replace k8 := k8.keep hb
      have k8ne : q2.heap.size ≠ w.heap.size := by have := k3a; have := k3l; omega
      clear hb k3a k3b k3c k3l
      have k3a := k3.1; have k3b := k3.2.1; have k3c := k3.2.2; have k3l := k3.lt
      have k8a := k8.1; have k8b := k8.2.1; have k8c := k8.2.2; have k8l := k8.lt
      obtain ⟨f3a, f3b, f3c⟩ := f3
      go_wp2
      refine ⟨⟨A, B, C, v, k + 1, rfl, rfl, by omega, tok, by have := HE.out.2.2.2.1; have := HS.out; omega, v0, by omega, HE.out.2.2.2.2.1, HE.out.2.2.2.2.2, Is3.stored _ _ A B C k3, Free3.stored _ _ _ _ _ ⟨f3a, f3b, f3c⟩, ?_⟩, by simp [intOf]; omega⟩
      exact ((bel.setCell (Nat.le_refl _) _).setCell (Nat.le_refl _) _).setCell (Nat.le_refl _) _
    · have hz : x = 0 ∧ y = 0 ∧ z = 0 := by
        obtain ⟨p0, p1, r0, r1, s0, s1⟩ := hok
        omega
      obtain ⟨rfl, rfl, rfl⟩ := hz
      clear hs hx hy hok
      have k3a := k3.1; have k3b := k3.2.1; have k3c := k3.2.2; have k3l := k3.lt
      go_wp2_with fail
      refine (works_first 0 0 0 (-1) _ (by decide)).mono ?_; rintro e q1 ⟨rfl, hb⟩
      replace bel := below_after bel hb
      replace k3 := k3.keep hb
      clear hb k3a k3b k3c k3l
      have k3a := k3.1; have k3b := k3.2.1; have k3c := k3.2.2; have k3l := k3.lt
      go_wp2_with (go_at_call 22; refine (works_any _).mono ?_; rintro e wx ⟨rfl, hb⟩)
      go_ret
      exact ⟨rfl, below_after bel hb⟩

theorem probeFirst_any (n : Int) (w : World) (n0 : -9223372036854775808 ≤ n) (n1 : n ≤ 9223372036854775807) :
    Calls Try.prog 7 #[.int .i64 n] w fun e w' => e = .returned (.bool true) ∧ Below w.heap.size w w' := first_core n w n0 n1
end Go.Proofs.Ytfebopgljcagnaa
