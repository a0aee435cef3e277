/-
  The document's Check for events answers as the program's.
-/
import Derived.Test.YtjhkgoppopfoaaaDoorEvy
namespace Go.Proofs.YtjhkgoppopfoaaaDoor
open Go.RowKit Go.Lib
set_option linter.unusedVariables false
set_option linter.unusedSimpArgs false
theorem err_by {e : Ev} {b : Bool} (h : e.ok ↔ b = true) : e.err = if b then 0 else 2 := by
  cases b with
  | true => rw [err_yes (h.2 rfl)]; rfl
  | false => rw [err_no (fun x => by have := h.1 x; cases this)]; rfl
theorem ok_k1 (sp nu n : Int) : (⟨1, sp, nu, n⟩ : Ev).ok ↔ ((decide (0 ≤ sp) && decide (sp ≤ 2)) && (decide (0 ≤ nu) && decide (nu ≤ 9007199254740991)) && (decide (1 ≤ n) && decide (n ≤ 65535))) = true := by
  simp [Ev.ok, fds, Ev.at]
  try omega
theorem ok_k2 (sp nu n : Int) : (⟨2, sp, nu, n⟩ : Ev).ok ↔ ((decide (0 ≤ sp) && decide (sp ≤ 2)) && (decide (0 ≤ nu) && decide (nu ≤ 9007199254740991)) && (decide (1 ≤ n) && decide (n ≤ 65535))) = true := by
  simp [Ev.ok, fds, Ev.at]
  try omega
theorem ok_k3 (sp nu n : Int) : (⟨3, sp, nu, n⟩ : Ev).ok ↔ ((decide (0 ≤ sp) && decide (sp ≤ 2)) && (nu == 0) && (decide (1 ≤ n) && decide (n ≤ 2))) = true := by
  simp [Ev.ok, fds, Ev.at]
  try omega
theorem ok_k4 (sp nu n : Int) : (⟨4, sp, nu, n⟩ : Ev).ok ↔ ((sp == 0) && (nu == 0) && (decide (2400 ≤ n) && decide (n ≤ 1099511627776))) = true := by
  simp [Ev.ok, fds, Ev.at]
  try omega
theorem ok_k5 (sp nu n : Int) : (⟨5, sp, nu, n⟩ : Ev).ok ↔ ((decide (0 ≤ sp) && decide (sp ≤ 2)) && (nu == 0) && (n == 0)) = true := by
  simp [Ev.ok, fds, Ev.at]
  try omega
theorem ok_k6 (sp nu n : Int) : (⟨6, sp, nu, n⟩ : Ev).ok ↔ ((sp == 0) && (nu == 0) && (decide (1 ≤ n) && decide (n ≤ 999))) = true := by
  simp [Ev.ok, fds, Ev.at]
  try omega
theorem rcheck22_any (e : Ev) (w : World) : Calls Tryd.prog 33 #[e.val] w fun x w' => x = .returned (.int .i64 e.err) ∧ Below w.heap.size w w' := by
  by_cases hk : 1 ≤ e.k ∧ e.k ≤ 6
  · obtain ⟨k, sp, nu, n⟩ := e
    simp only at hk
    obtain rfl | rfl | rfl | rfl | rfl | rfl : k = 1 ∨ k = 2 ∨ k = 3 ∨ k = 4 ∨ k = 5 ∨ k = 6 := by omega
    · rw [err_by (ok_k1 sp nu n)]; exact rcheck_k1 sp nu n _ _ _ w rfl rfl rfl
    · rw [err_by (ok_k2 sp nu n)]; exact rcheck_k2 sp nu n _ _ _ w rfl rfl rfl
    · rw [err_by (ok_k3 sp nu n)]; exact rcheck_k3 sp nu n _ _ _ w rfl rfl rfl
    · rw [err_by (ok_k4 sp nu n)]; exact rcheck_k4 sp nu n _ _ _ w rfl rfl rfl
    · rw [err_by (ok_k5 sp nu n)]; exact rcheck_k5 sp nu n _ _ _ w rfl rfl rfl
    · rw [err_by (ok_k6 sp nu n)]; exact rcheck_k6 sp nu n _ _ _ w rfl rfl rfl
  · rw [err_no (fun h => hk h.1)]
    exact rcheck_none e w hk
end Go.Proofs.YtjhkgoppopfoaaaDoor
