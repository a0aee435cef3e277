/-
  The document's Line, Text and Count for events.
-/
import Derived.Test.YtjhkgoppopfoaaaDoorEvz
import Derived.Test.YtjhkgoppopfoaaaDoorEvg
import Derived.Test.YtjhkgoppopfoaaaDoorEvn
import Derived.BigQuiet
namespace Go.Proofs.YtjhkgoppopfoaaaDoor
open Go.RowKit Go.Lib Go.Maps
set_option linter.unusedVariables false
set_option linter.unusedSimpArgs false

theorem edig (v : Int) (h0 : 0 ≤ v) (h1 : v ≤ 9007199254740991) (w : World) : Calls Tryd.prog 61 #[.int .i64 v] w fun e w' => e = .returned (.string ⟨(itoa v).toArray⟩) ∧ w' = w := by
  obtain ⟨m, rfl⟩ : ∃ m : Nat, v = (m : Int) := ⟨v.toNat, by omega⟩
  rw [itoa_nat]
  exact (edigs_any m m (Nat.le_refl _) (by omega) w).mono fun _ _ ⟨a, b⟩ => ⟨a, b.symm⟩
set_option maxRecDepth 100000 in
theorem rline_no (e : Ev) (w : World) (hno : ¬ e.ok) : Calls Tryd.prog 32 #[e.val] w fun x w' => x = .returned (.tuple #[.string ⟨#[]⟩, .int .i64 2]) ∧ Below w.heap.size w w' := by
  have hp : EvAt (w.alloc (.cells e.cells 52)) w.heap.size e := heap_at _ rfl
  have hb := below_alloc1 w (.cells e.cells 52)
  have c0 := hp.c0
  have c1 := hp.c1
  have c2 := hp.c2
  have c3 := hp.c3
  have HE := hide (err_no hno)
  simp only [Ev.val, Ev.cells] at hp hb c0 c1 c2 c3 ⊢
  go_enter Tryd.func32, Tryd.ntmps32
  go_wp2_with fail
  refine (rcheck22_any e _).mono ?_; rintro x w1 ⟨rfl, hb1⟩
  rw [HE.out]
  have hb2 := below_after hb hb1
  go_wp2_with fail
  go_ret2
  exact ⟨rfl, hb2⟩
set_option maxRecDepth 100000 in
set_option maxHeartbeats 4000000 in
theorem rline_k1 (sp nu n : Int) (w : World) (h : (⟨1, sp, nu, n⟩ : Ev).ok) : Calls Tryd.prog 32 #[(⟨1, sp, nu, n⟩ : Ev).val] w fun x w' => x = .returned (.tuple #[.string ⟨(lineE ⟨1, sp, nu, n⟩).toArray⟩, .int .i64 0]) ∧ Below w.heap.size w w' := by
  have hp : EvAt (w.alloc (.cells (⟨1, sp, nu, n⟩ : Ev).cells 52)) w.heap.size ⟨1, sp, nu, n⟩ := heap_at _ rfl
  have hb := below_alloc1 w (.cells (⟨1, sp, nu, n⟩ : Ev).cells 52)
  have c0 := hp.c0
  have c1 := hp.c1
  have c2 := hp.c2
  have c3 := hp.c3
  have HE := hide (err_yes h)
  have r1 : 0 ≤ sp ∧ sp ≤ 9007199254740991 := ok_range h ⟨1, 0, 2⟩ (by simp [fds])
  have l1 : (itoa sp).length ≤ 21 := itoa_length_le sp (by omega) (by omega)
  have D1 := hide (edig sp r1.1 r1.2)
  have r2 : 0 ≤ nu ∧ nu ≤ 9007199254740991 := ok_range h ⟨2, 0, 9007199254740991⟩ (by simp [fds])
  have l2 : (itoa nu).length ≤ 21 := itoa_length_le nu (by omega) (by omega)
  have D2 := hide (edig nu r2.1 r2.2)
  have r3 : 0 ≤ n ∧ n ≤ 9007199254740991 := ok_range h ⟨3, 1, 65535⟩ (by simp [fds])
  have l3 : (itoa n).length ≤ 21 := itoa_length_le n (by omega) (by omega)
  have D3 := hide (edig n r3.1 r3.2)
  have q0 : ¬ 9223372036854775807 < 6 + (itoa sp).length := by omega
  have q1 : ¬ 9223372036854775807 < 6 + (itoa sp).length + 1 := by omega
  have q2 : ¬ 9223372036854775807 < 6 + (itoa sp).length + 1 + (itoa nu).length := by omega
  have q3 : ¬ 9223372036854775807 < 6 + (itoa sp).length + 1 + (itoa nu).length + 1 := by omega
  have q4 : ¬ 9223372036854775807 < 6 + (itoa sp).length + 1 + (itoa nu).length + 1 + (itoa n).length := by omega
  have q5 : ¬ 9223372036854775807 < 6 + (itoa sp).length + 1 + (itoa nu).length + 1 + (itoa n).length + 1 := by omega
  have hs : (⟨#[97, 99, 107, 101, 100, 32]⟩ : ByteArray) ++ ⟨(itoa sp).toArray⟩ ++ ⟨#[32]⟩ ++ ⟨(itoa nu).toArray⟩ ++ ⟨#[32]⟩ ++ ⟨(itoa n).toArray⟩ ++ ⟨#[10]⟩ = ⟨(lineE ⟨1, sp, nu, n⟩).toArray⟩ := by
    apply ByteArray.ext
    simp [lineE, preL, fds, word, Ev.at]
  have HS := hide hs
  clear hs r1 r2 r3 l1 l2 l3 h
  have HP := hide hp
  simp only [Ev.val, Ev.cells] at hb c0 c1 c2 c3 ⊢
  go_enter Tryd.func32, Tryd.ntmps32
  go_wp2_with fail
  refine (rcheck22_any ⟨1, sp, nu, n⟩ _).mono ?_; rintro x w1 ⟨rfl, hb1⟩
  rw [HE.out]
  have hb2 := below_after hb hb1
  have hp1 := HP.out.keep hb1
  clear hb hb1 c0 c1 c2 c3 HP HE hp
  have c0 := hp1.c0
  have c1 := hp1.c1
  have c2 := hp1.c2
  have c3 := hp1.c3
  clear hp1
  simp only at c0 c1 c2 c3
  go_upto_region 6 with (fail)
  go_quiet (first | (go_at_call_of 61 sp; exact Calls.quiet_of_same (D1.out _)) | (go_at_call_of 61 nu; exact Calls.quiet_of_same (D2.out _)) | (go_at_call_of 61 n; exact Calls.quiet_of_same (D3.out _)))
  go_wp2_with fail
  go_ret2
  exact ⟨by rw [← HS.out]; rfl, below_after hb2 (below_drawn ⟨_, rfl⟩)⟩
set_option maxRecDepth 100000 in
set_option maxHeartbeats 4000000 in
theorem rline_k2 (sp nu n : Int) (w : World) (h : (⟨2, sp, nu, n⟩ : Ev).ok) : Calls Tryd.prog 32 #[(⟨2, sp, nu, n⟩ : Ev).val] w fun x w' => x = .returned (.tuple #[.string ⟨(lineE ⟨2, sp, nu, n⟩).toArray⟩, .int .i64 0]) ∧ Below w.heap.size w w' := by
  have hp : EvAt (w.alloc (.cells (⟨2, sp, nu, n⟩ : Ev).cells 52)) w.heap.size ⟨2, sp, nu, n⟩ := heap_at _ rfl
  have hb := below_alloc1 w (.cells (⟨2, sp, nu, n⟩ : Ev).cells 52)
  have c0 := hp.c0
  have c1 := hp.c1
  have c2 := hp.c2
  have c3 := hp.c3
  have HE := hide (err_yes h)
  have r1 : 0 ≤ sp ∧ sp ≤ 9007199254740991 := ok_range h ⟨1, 0, 2⟩ (by simp [fds])
  have l1 : (itoa sp).length ≤ 21 := itoa_length_le sp (by omega) (by omega)
  have D1 := hide (edig sp r1.1 r1.2)
  have r2 : 0 ≤ nu ∧ nu ≤ 9007199254740991 := ok_range h ⟨2, 0, 9007199254740991⟩ (by simp [fds])
  have l2 : (itoa nu).length ≤ 21 := itoa_length_le nu (by omega) (by omega)
  have D2 := hide (edig nu r2.1 r2.2)
  have r3 : 0 ≤ n ∧ n ≤ 9007199254740991 := ok_range h ⟨3, 1, 65535⟩ (by simp [fds])
  have l3 : (itoa n).length ≤ 21 := itoa_length_le n (by omega) (by omega)
  have D3 := hide (edig n r3.1 r3.2)
  have q0 : ¬ 9223372036854775807 < 5 + (itoa sp).length := by omega
  have q1 : ¬ 9223372036854775807 < 5 + (itoa sp).length + 1 := by omega
  have q2 : ¬ 9223372036854775807 < 5 + (itoa sp).length + 1 + (itoa nu).length := by omega
  have q3 : ¬ 9223372036854775807 < 5 + (itoa sp).length + 1 + (itoa nu).length + 1 := by omega
  have q4 : ¬ 9223372036854775807 < 5 + (itoa sp).length + 1 + (itoa nu).length + 1 + (itoa n).length := by omega
  have q5 : ¬ 9223372036854775807 < 5 + (itoa sp).length + 1 + (itoa nu).length + 1 + (itoa n).length + 1 := by omega
  have hs : (⟨#[108, 111, 115, 116, 32]⟩ : ByteArray) ++ ⟨(itoa sp).toArray⟩ ++ ⟨#[32]⟩ ++ ⟨(itoa nu).toArray⟩ ++ ⟨#[32]⟩ ++ ⟨(itoa n).toArray⟩ ++ ⟨#[10]⟩ = ⟨(lineE ⟨2, sp, nu, n⟩).toArray⟩ := by
    apply ByteArray.ext
    simp [lineE, preL, fds, word, Ev.at]
  have HS := hide hs
  clear hs r1 r2 r3 l1 l2 l3 h
  have HP := hide hp
  simp only [Ev.val, Ev.cells] at hb c0 c1 c2 c3 ⊢
  go_enter Tryd.func32, Tryd.ntmps32
  go_wp2_with fail
  refine (rcheck22_any ⟨2, sp, nu, n⟩ _).mono ?_; rintro x w1 ⟨rfl, hb1⟩
  rw [HE.out]
  have hb2 := below_after hb hb1
  have hp1 := HP.out.keep hb1
  clear hb hb1 c0 c1 c2 c3 HP HE hp
  have c0 := hp1.c0
  have c1 := hp1.c1
  have c2 := hp1.c2
  have c3 := hp1.c3
  clear hp1
  simp only at c0 c1 c2 c3
  go_upto_region 8 with (fail)
  go_quiet (first | (go_at_call_of 61 sp; exact Calls.quiet_of_same (D1.out _)) | (go_at_call_of 61 nu; exact Calls.quiet_of_same (D2.out _)) | (go_at_call_of 61 n; exact Calls.quiet_of_same (D3.out _)))
  go_wp2_with fail
  go_ret2
  exact ⟨by rw [← HS.out]; rfl, below_after hb2 (below_drawn ⟨_, rfl⟩)⟩
set_option maxRecDepth 100000 in
set_option maxHeartbeats 4000000 in
theorem rline_k3 (sp n : Int) (w : World) (h : (⟨3, sp, 0, n⟩ : Ev).ok) : Calls Tryd.prog 32 #[(⟨3, sp, 0, n⟩ : Ev).val] w fun x w' => x = .returned (.tuple #[.string ⟨(lineE ⟨3, sp, 0, n⟩).toArray⟩, .int .i64 0]) ∧ Below w.heap.size w w' := by
  have hp : EvAt (w.alloc (.cells (⟨3, sp, 0, n⟩ : Ev).cells 52)) w.heap.size ⟨3, sp, 0, n⟩ := heap_at _ rfl
  have hb := below_alloc1 w (.cells (⟨3, sp, 0, n⟩ : Ev).cells 52)
  have c0 := hp.c0
  have c1 := hp.c1
  have c2 := hp.c2
  have c3 := hp.c3
  have HE := hide (err_yes h)
  have r1 : 0 ≤ sp ∧ sp ≤ 9007199254740991 := ok_range h ⟨1, 0, 2⟩ (by simp [fds])
  have l1 : (itoa sp).length ≤ 21 := itoa_length_le sp (by omega) (by omega)
  have D1 := hide (edig sp r1.1 r1.2)
  have r3 : 0 ≤ n ∧ n ≤ 9007199254740991 := ok_range h ⟨3, 1, 2⟩ (by simp [fds])
  have l3 : (itoa n).length ≤ 21 := itoa_length_le n (by omega) (by omega)
  have D3 := hide (edig n r3.1 r3.2)
  have q0 : ¬ 9223372036854775807 < 6 + (itoa sp).length := by omega
  have q1 : ¬ 9223372036854775807 < 6 + (itoa sp).length + 1 := by omega
  have q2 : ¬ 9223372036854775807 < 6 + (itoa sp).length + 1 + (itoa n).length := by omega
  have q3 : ¬ 9223372036854775807 < 6 + (itoa sp).length + 1 + (itoa n).length + 1 := by omega
  have hs : (⟨#[112, 114, 111, 98, 101, 32]⟩ : ByteArray) ++ ⟨(itoa sp).toArray⟩ ++ ⟨#[32]⟩ ++ ⟨(itoa n).toArray⟩ ++ ⟨#[10]⟩ = ⟨(lineE ⟨3, sp, 0, n⟩).toArray⟩ := by
    apply ByteArray.ext
    simp [lineE, preL, fds, word, Ev.at]
  have HS := hide hs
  clear hs r1 r3 l1 l3 h
  have HP := hide hp
  simp only [Ev.val, Ev.cells] at hb c0 c1 c2 c3 ⊢
  go_enter Tryd.func32, Tryd.ntmps32
  go_wp2_with fail
  refine (rcheck22_any ⟨3, sp, 0, n⟩ _).mono ?_; rintro x w1 ⟨rfl, hb1⟩
  rw [HE.out]
  have hb2 := below_after hb hb1
  have hp1 := HP.out.keep hb1
  clear hb hb1 c0 c1 c2 c3 HP HE hp
  have c0 := hp1.c0
  have c1 := hp1.c1
  have c2 := hp1.c2
  have c3 := hp1.c3
  clear hp1
  simp only at c0 c1 c2 c3
  go_upto_region 10 with (fail)
  go_quiet (first | (go_at_call_of 61 sp; exact Calls.quiet_of_same (D1.out _)) | (go_at_call_of 61 n; exact Calls.quiet_of_same (D3.out _)))
  go_wp2_with fail
  go_ret2
  exact ⟨by rw [← HS.out]; rfl, below_after hb2 (below_drawn ⟨_, rfl⟩)⟩
set_option maxRecDepth 100000 in
set_option maxHeartbeats 4000000 in
theorem rline_k4 (n : Int) (w : World) (h : (⟨4, 0, 0, n⟩ : Ev).ok) : Calls Tryd.prog 32 #[(⟨4, 0, 0, n⟩ : Ev).val] w fun x w' => x = .returned (.tuple #[.string ⟨(lineE ⟨4, 0, 0, n⟩).toArray⟩, .int .i64 0]) ∧ Below w.heap.size w w' := by
  have hp : EvAt (w.alloc (.cells (⟨4, 0, 0, n⟩ : Ev).cells 52)) w.heap.size ⟨4, 0, 0, n⟩ := heap_at _ rfl
  have hb := below_alloc1 w (.cells (⟨4, 0, 0, n⟩ : Ev).cells 52)
  have c0 := hp.c0
  have c1 := hp.c1
  have c2 := hp.c2
  have c3 := hp.c3
  have HE := hide (err_yes h)
  have r3 : 0 ≤ n ∧ n ≤ 9007199254740991 := ok_range h ⟨3, 2400, 1099511627776⟩ (by simp [fds])
  have l3 : (itoa n).length ≤ 21 := itoa_length_le n (by omega) (by omega)
  have D3 := hide (edig n r3.1 r3.2)
  have q0 : ¬ 9223372036854775807 < 7 + (itoa n).length := by omega
  have q1 : ¬ 9223372036854775807 < 7 + (itoa n).length + 1 := by omega
  have hs : (⟨#[119, 105, 110, 100, 111, 119, 32]⟩ : ByteArray) ++ ⟨(itoa n).toArray⟩ ++ ⟨#[10]⟩ = ⟨(lineE ⟨4, 0, 0, n⟩).toArray⟩ := by
    apply ByteArray.ext
    simp [lineE, preL, fds, word, Ev.at]
  have HS := hide hs
  clear hs r3 l3 h
  have HP := hide hp
  simp only [Ev.val, Ev.cells] at hb c0 c1 c2 c3 ⊢
  go_enter Tryd.func32, Tryd.ntmps32
  go_wp2_with fail
  refine (rcheck22_any ⟨4, 0, 0, n⟩ _).mono ?_; rintro x w1 ⟨rfl, hb1⟩
  rw [HE.out]
  have hb2 := below_after hb hb1
  have hp1 := HP.out.keep hb1
  clear hb hb1 c0 c1 c2 c3 HP HE hp
  have c0 := hp1.c0
  have c1 := hp1.c1
  have c2 := hp1.c2
  have c3 := hp1.c3
  clear hp1
  simp only at c0 c1 c2 c3
  go_wp2_with fail
  refine (D3.out _).mono ?_; rintro x w2 ⟨rfl, rfl⟩
  go_wp2_with fail
  go_ret2
  exact ⟨by rw [← HS.out]; rfl, hb2⟩
set_option maxRecDepth 100000 in
set_option maxHeartbeats 4000000 in
theorem rline_k5 (sp : Int) (w : World) (h : (⟨5, sp, 0, 0⟩ : Ev).ok) : Calls Tryd.prog 32 #[(⟨5, sp, 0, 0⟩ : Ev).val] w fun x w' => x = .returned (.tuple #[.string ⟨(lineE ⟨5, sp, 0, 0⟩).toArray⟩, .int .i64 0]) ∧ Below w.heap.size w w' := by
  have hp : EvAt (w.alloc (.cells (⟨5, sp, 0, 0⟩ : Ev).cells 52)) w.heap.size ⟨5, sp, 0, 0⟩ := heap_at _ rfl
  have hb := below_alloc1 w (.cells (⟨5, sp, 0, 0⟩ : Ev).cells 52)
  have c0 := hp.c0
  have c1 := hp.c1
  have c2 := hp.c2
  have c3 := hp.c3
  have HE := hide (err_yes h)
  have r1 : 0 ≤ sp ∧ sp ≤ 9007199254740991 := ok_range h ⟨1, 0, 2⟩ (by simp [fds])
  have l1 : (itoa sp).length ≤ 21 := itoa_length_le sp (by omega) (by omega)
  have D1 := hide (edig sp r1.1 r1.2)
  have q0 : ¬ 9223372036854775807 < 9 + (itoa sp).length := by omega
  have q1 : ¬ 9223372036854775807 < 9 + (itoa sp).length + 1 := by omega
  have hs : (⟨#[99, 111, 108, 108, 97, 112, 115, 101, 32]⟩ : ByteArray) ++ ⟨(itoa sp).toArray⟩ ++ ⟨#[10]⟩ = ⟨(lineE ⟨5, sp, 0, 0⟩).toArray⟩ := by
    apply ByteArray.ext
    simp [lineE, preL, fds, word, Ev.at]
  have HS := hide hs
  clear hs r1 l1 h
  have HP := hide hp
  simp only [Ev.val, Ev.cells] at hb c0 c1 c2 c3 ⊢
  go_enter Tryd.func32, Tryd.ntmps32
  go_wp2_with fail
  refine (rcheck22_any ⟨5, sp, 0, 0⟩ _).mono ?_; rintro x w1 ⟨rfl, hb1⟩
  rw [HE.out]
  have hb2 := below_after hb hb1
  have hp1 := HP.out.keep hb1
  clear hb hb1 c0 c1 c2 c3 HP HE hp
  have c0 := hp1.c0
  have c1 := hp1.c1
  have c2 := hp1.c2
  have c3 := hp1.c3
  clear hp1
  simp only at c0 c1 c2 c3
  go_wp2_with fail
  refine (D1.out _).mono ?_; rintro x w2 ⟨rfl, rfl⟩
  go_wp2_with fail
  go_ret2
  exact ⟨by rw [← HS.out]; rfl, hb2⟩
set_option maxRecDepth 100000 in
set_option maxHeartbeats 4000000 in
theorem rline_k6 (n : Int) (w : World) (h : (⟨6, 0, 0, n⟩ : Ev).ok) : Calls Tryd.prog 32 #[(⟨6, 0, 0, n⟩ : Ev).val] w fun x w' => x = .returned (.tuple #[.string ⟨(lineE ⟨6, 0, 0, n⟩).toArray⟩, .int .i64 0]) ∧ Below w.heap.size w w' := by
  have hp : EvAt (w.alloc (.cells (⟨6, 0, 0, n⟩ : Ev).cells 52)) w.heap.size ⟨6, 0, 0, n⟩ := heap_at _ rfl
  have hb := below_alloc1 w (.cells (⟨6, 0, 0, n⟩ : Ev).cells 52)
  have c0 := hp.c0
  have c1 := hp.c1
  have c2 := hp.c2
  have c3 := hp.c3
  have HE := hide (err_yes h)
  have r3 : 0 ≤ n ∧ n ≤ 9007199254740991 := ok_range h ⟨3, 1, 999⟩ (by simp [fds])
  have l3 : (itoa n).length ≤ 21 := itoa_length_le n (by omega) (by omega)
  have D3 := hide (edig n r3.1 r3.2)
  have q0 : ¬ 9223372036854775807 < 7 + (itoa n).length := by omega
  have q1 : ¬ 9223372036854775807 < 7 + (itoa n).length + 1 := by omega
  have hs : (⟨#[99, 108, 111, 115, 101, 100, 32]⟩ : ByteArray) ++ ⟨(itoa n).toArray⟩ ++ ⟨#[10]⟩ = ⟨(lineE ⟨6, 0, 0, n⟩).toArray⟩ := by
    apply ByteArray.ext
    simp [lineE, preL, fds, word, Ev.at]
  have HS := hide hs
  clear hs r3 l3 h
  have HP := hide hp
  simp only [Ev.val, Ev.cells] at hb c0 c1 c2 c3 ⊢
  go_enter Tryd.func32, Tryd.ntmps32
  go_wp2_with fail
  refine (rcheck22_any ⟨6, 0, 0, n⟩ _).mono ?_; rintro x w1 ⟨rfl, hb1⟩
  rw [HE.out]
  have hb2 := below_after hb hb1
  have hp1 := HP.out.keep hb1
  clear hb hb1 c0 c1 c2 c3 HP HE hp
  have c0 := hp1.c0
  have c1 := hp1.c1
  have c2 := hp1.c2
  have c3 := hp1.c3
  clear hp1
  simp only at c0 c1 c2 c3
  go_wp2_with fail
  refine (D3.out _).mono ?_; rintro x w2 ⟨rfl, rfl⟩
  go_wp2_with fail
  go_ret2
  exact ⟨by rw [← HS.out]; rfl, hb2⟩
theorem rline_yes (e : Ev) (w : World) (hok : e.ok) : Calls Tryd.prog 32 #[e.val] w fun x w' => x = .returned (.tuple #[.string ⟨(lineE e).toArray⟩, .int .i64 0]) ∧ Below w.heap.size w w' := by
  have hk := hok.1
  have z1 := hok.2.2 1 (by decide)
  have z2 := hok.2.2 2 (by decide)
  have z3 := hok.2.2 3 (by decide)
  obtain ⟨k, sp, nu, n⟩ := e
  simp only at hk z1 z2 z3
  obtain rfl | rfl | rfl | rfl | rfl | rfl : k = 1 ∨ k = 2 ∨ k = 3 ∨ k = 4 ∨ k = 5 ∨ k = 6 := by omega
  all_goals (simp [fds, Ev.at] at z1 z2 z3)
  · exact rline_k1 sp nu n w hok
  · exact rline_k2 sp nu n w hok
  · subst z2; exact rline_k3 sp n w hok
  · subst z1 z2; exact rline_k4 n w hok
  · subst z2 z3; exact rline_k5 sp w hok
  · subst z1 z2; exact rline_k6 n w hok
def RtR (w : World) (len : Nat) (z : Nat → Nat → Int) (i s : Value) (wr : World) : Prop := ∃ k : Nat, i = .int .i64 (k : Int) ∧ k ≤ len ∧ OkN z k ∧ s = .string ⟨(linesT z k).toArray⟩ ∧ Below w.heap.size w wr
set_option maxRecDepth 100000 in
set_option maxHeartbeats 4000000 in
theorem rtext22_any (a : Option Addr) (len cap : Nat) (z : Nat → Nat → Int) (w : World) (h : IsEvs w a len 4 z) (hl : len ≤ 4000) :
    Calls Tryd.prog 34 #[.slice a len cap] w fun e w' => (∃ s er, e = .returned (.tuple #[.string ⟨s.toArray⟩, .int .i64 er]) ∧ TextR z len s er) ∧ Below w.heap.size w w' := by
  have hll : ¬ ((4000 : Int) < (len : Int)) := by omega
  go_enter Tryd.func34, Tryd.ntmps34
  go_wp2_with fail
  go_loopw [5, 4] (RtR w len z) (fun i _ _ => (len - intOf i).toNat)
  case atStart => exact ⟨0, rfl, by omega, fun i hi => absurd hi (by omega), by simp [linesT], Below.refl _ _⟩
  case round =>
    obtain ⟨k, rfl, hk, hok, rfl, hB⟩ := hrel
    have hll := linesT_len k hok
    by_cases hlt : k < len
    · obtain ⟨ab, off, rfl, e0, e1, e2, e3, hwf⟩ := row_cells (h.keep hB) hlt
      have hkl : (k : Int) < (len : Int) := by omega
      have hk0 : (0 : Int) ≤ (k : Int) := by omega
      by_cases hkok : (evAt z k).ok
      · have HL := hide (rline_yes (evAt z k) wr hkok)
        have hll2 : (lineE ⟨z k 0, z k 1, z k 2, z k 3⟩).length ≤ 75 := lineE_len hkok
        have q1 : ¬ 9223372036854775807 < (linesT z k).length + (lineE ⟨z k 0, z k 1, z k 2, z k 3⟩).length := by omega
        have HK := hide hkok
        have HS := hide (linesT_succ z k)
        simp only [Ev.val, Ev.cells, evAt] at HL HS
        go_wp2_with fail
        refine HL.out.mono ?_; rintro x w2 ⟨rfl, hb2⟩
        go_wp2_with fail
        go_roundw
        case rel =>
          refine ⟨k + 1, by go_num, by omega, fun i hi => ?_, ?_, below_after hB hb2⟩
          · by_cases hik : i < k
            · exact hok i hik
            · obtain rfl : i = k := by omega
              exact HK.out
          · rw [HS.out]
            congr 1
        case measure => simp [intOf]; omega
      · have HL := hide (rline_no (evAt z k) wr hkok)
        have HK := hide hkok
        simp only [Ev.val, Ev.cells, evAt] at HL
        go_wp2_with fail
        refine HL.out.mono ?_; rintro x w2 ⟨rfl, hb2⟩
        go_wp2_with fail
        go_ret2
        exact ⟨⟨[], 2, rfl, Or.inr ⟨fun hx => HK.out (hx k hlt), rfl, rfl⟩⟩, below_after hB hb2⟩
    · obtain rfl : k = len := by omega
      go_wp2_with fail
      go_ret2
      exact ⟨⟨linesT z k, 0, rfl, Or.inl ⟨hok, rfl, rfl⟩⟩, hB⟩
def RcR (w : World) (len : Nat) (z : Nat → Nat → Int) (kind : Int) (i c : Value) (wr : World) : Prop := ∃ k : Nat, i = .int .i64 (k : Int) ∧ k ≤ len ∧ c = .int .i64 (countN z kind k : Nat) ∧ w = wr
set_option maxRecDepth 100000 in
set_option maxHeartbeats 4000000 in
theorem rcount22_any (a : Option Addr) (len cap : Nat) (z : Nat → Nat → Int) (kind : Int) (w : World) (h : IsEvs w a len 4 z) :
    Calls Tryd.prog 36 #[.slice a len cap, .int .i64 kind] w fun e w' => e = .returned (.int .i64 (countN z kind len : Nat)) ∧ Below w.heap.size w w' := by
  have hmx : len ≤ 9223372036854775807 := Nat.le_trans h.1 (by decide)
  go_enter Tryd.func36, Tryd.ntmps36
  go_wp2_with fail
  go_loopw [6, 5] (RcR w len z kind) (fun i _ _ => (len - intOf i).toNat)
  case atStart => exact ⟨0, rfl, by omega, rfl, rfl⟩
  case round =>
    obtain ⟨k, rfl, hk, rfl, rfl⟩ := hrel
    have hc := countN_le z kind k
    by_cases hlt : k < len
    · obtain ⟨ab, off, rfl, e0, e1, e2, e3, hwf⟩ := row_cells h hlt
      have hkl : (k : Int) < (len : Int) := by omega
      have hk0 : (0 : Int) ≤ (k : Int) := by omega
      by_cases hz : z k 0 = kind
      · have hs : countN z kind (k + 1) = countN z kind k + 1 := by rw [countN, if_pos hz]
        have HS := hide hs
        have hb : (z k 0 == kind) = true := by simpa using hz
        clear hs hz
        go_wp2_with fail
        go_roundw
        case rel => exact ⟨k + 1, by go_num, by omega, by rw [HS.out]; go_num, rfl⟩
        case measure => simp [intOf]; omega
      · have hs : countN z kind (k + 1) = countN z kind k := by rw [countN, if_neg hz]; rfl
        have HS := hide hs
        have hb : (z k 0 == kind) = false := by simpa using hz
        clear hs
        go_wp2_with fail
        go_roundw
        case rel => exact ⟨k + 1, by go_num, by omega, by rw [HS.out], rfl⟩
        case measure => simp [intOf]; omega
    · obtain rfl : k = len := by omega
      go_wp2_with fail
      go_ret
      exact ⟨rfl, Below.refl _ _⟩
end Go.Proofs.YtjhkgoppopfoaaaDoor
