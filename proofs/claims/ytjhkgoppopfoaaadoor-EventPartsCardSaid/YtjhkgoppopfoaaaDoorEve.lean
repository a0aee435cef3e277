/-
  equal: two lists of events are the same; walked once.
-/
import Derived.Test.YtjhkgoppopfoaaaDoorEvt
import Derived.BigQuiet
namespace Go.Proofs.YtjhkgoppopfoaaaDoor
open Go.RowKit Go.Lib Go.Maps
set_option linter.unusedVariables false
set_option linter.unusedSimpArgs false

def EqRel (w : World) (len : Nat) (z y : Nat → Nat → Int) (i : Value) (wr : World) : Prop := ∃ k : Nat, i = .int .i64 (k : Int) ∧ k ≤ len ∧ (∀ i, i < k → evAt z i = evAt y i) ∧ Below w.heap.size w wr
/-- Lists of one length, alike throughout: true. -/
theorem equal_yes (a b : Option Addr) (len cap cap2 : Nat) (z y : Nat → Nat → Int) (w : World) (h : IsEvs w a len 4 z) (h2 : IsEvs w b len 4 y) (he : ∀ i, i < len → evAt z i = evAt y i) :
    Calls Tryd.prog 25 #[.slice a len cap, .slice b len cap2] w fun e w' => e = .returned (.bool true) ∧ Below w.heap.size w w' := by
  have hmx : len ≤ 9223372036854775807 := Nat.le_trans h.1 (by decide)
  go_enter Tryd.func25, Tryd.ntmps25
  go_wp2_with fail
  go_loopw [5] (EqRel w len z y) (fun i _ => (len - intOf i).toNat)
  case atStart => exact ⟨0, rfl, by omega, fun i hi => absurd hi (by omega), Below.refl _ _⟩
  case round =>
    obtain ⟨k, rfl, hk, hs, hB⟩ := hrel
    by_cases hlt : k < len
    · obtain ⟨ab, off, rfl, e0, e1, e2, e3, hwf⟩ := row_cells (h.keep hB) hlt
      obtain ⟨ab2, off2, rfl, f0, f1, f2, f3, hwf2⟩ := row_cells (h2.keep hB) hlt
      have hkl : (k : Int) < (len : Int) := by omega
      have hk0 : (0 : Int) ≤ (k : Int) := by omega
      have hq := he k hlt
      simp only [evAt, Ev.mk.injEq] at hq
      rw [← hq.1] at f0
      rw [← hq.2.1] at f1
      rw [← hq.2.2.1] at f2
      rw [← hq.2.2.2] at f3
      clear hq
      go_wp2_with fail
      go_quiet (fail)
      go_wp2_with fail
      go_roundw
      case rel => exact ⟨k + 1, by go_num, by omega, fun i hi => he i (by omega), below_after hB (below_drawn ⟨_, rfl⟩)⟩
      case measure => simp [intOf]; omega
    · obtain rfl : k = len := by omega
      go_wp2_with fail
      go_ret
      exact ⟨rfl, hB⟩
end Go.Proofs.YtjhkgoppopfoaaaDoor
