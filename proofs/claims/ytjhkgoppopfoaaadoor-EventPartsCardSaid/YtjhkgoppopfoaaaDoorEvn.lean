/-
  event.Count, walked once.
-/
import Derived.Test.YtjhkgoppopfoaaaDoorEvt
namespace Go.Proofs.YtjhkgoppopfoaaaDoor
open Go.RowKit Go.Lib Go.Maps
set_option linter.unusedVariables false
set_option linter.unusedSimpArgs false

def countN (z : Nat → Nat → Int) (kind : Int) : Nat → Nat
  | 0 => 0
  | n + 1 => countN z kind n + if z n 0 = kind then 1 else 0
theorem countN_le (z : Nat → Nat → Int) (kind : Int) : ∀ n, countN z kind n ≤ n
  | 0 => Nat.le_refl _
  | n + 1 => by have := countN_le z kind n; unfold countN; split <;> omega
def CnRel (w : World) (len : Nat) (z : Nat → Nat → Int) (kind : Int) (i c : Value) (wr : World) : Prop := ∃ k : Nat, i = .int .i64 (k : Int) ∧ k ≤ len ∧ c = .int .i64 (countN z kind k : Nat) ∧ Below w.heap.size w wr
set_option maxRecDepth 100000 in
set_option maxHeartbeats 4000000 in
theorem ecount_any (a : Option Addr) (len cap : Nat) (z : Nat → Nat → Int) (kind : Int) (w : World) (h : IsEvs w a len 4 z) :
    Calls Tryd.prog 35 #[.slice a len cap, .int .i64 kind] w fun e w' => e = .returned (.int .i64 (countN z kind len : Nat)) ∧ Below w.heap.size w w' := by
  have hmx : len ≤ 9223372036854775807 := Nat.le_trans h.1 (by decide)
  go_enter Tryd.func35, Tryd.ntmps35
  go_wp2_with fail
  go_loopw [9, 4] (CnRel w len z kind) (fun i _ _ => (len - intOf i).toNat)
  case atStart => exact ⟨0, rfl, by omega, rfl, Below.refl _ _⟩
  case round =>
    obtain ⟨k, rfl, hk, rfl, hB⟩ := hrel
    have hc := countN_le z kind k
    by_cases hlt : k < len
    · obtain ⟨ab, off, rfl, e0, e1, e2, e3, hwf⟩ := row_cells (h.keep hB) hlt
      have hkl : (k : Int) < (len : Int) := by omega
      have hk0 : (0 : Int) ≤ (k : Int) := by omega
      have hB1 := below_after hB (below_alloc1 wr (.cells #[.int .i64 (z k 0), .int .i64 (z k 1), .int .i64 (z k 2), .int .i64 (z k 3)] 52))
      by_cases hz : z k 0 = kind
      · have hs : countN z kind (k + 1) = countN z kind k + 1 := by rw [countN, if_pos hz]
        have HS := hide hs
        have hb : (z k 0 == kind) = true := by simpa using hz
        clear hs hz
        go_wp2_with fail
        go_roundw
        case rel => exact ⟨k + 1, by go_num, by omega, by rw [HS.out]; go_num, hB1⟩
        case measure => simp [intOf]; omega
      · have hs : countN z kind (k + 1) = countN z kind k := by rw [countN, if_neg hz]; rfl
        have HS := hide hs
        have hb : (z k 0 == kind) = false := by simpa using hz
        clear hs
        go_wp2_with fail
        go_roundw
        case rel => exact ⟨k + 1, by go_num, by omega, by rw [HS.out], hB1⟩
        case measure => simp [intOf]; omega
    · obtain rfl : k = len := by omega
      go_wp2_with fail
      go_ret
      exact ⟨rfl, hB⟩
end Go.Proofs.YtjhkgoppopfoaaaDoor
