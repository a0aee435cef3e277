/-
  How a text is read as events: plain.
-/
import Derived.Test.YtjhkgoppopfoaaaDoorEvp
namespace Go.Proofs.YtjhkgoppopfoaaaDoor
open Go.RowKit Go.Lib
set_option linter.unusedVariables false
set_option linter.unusedSimpArgs false

/-- The events of a text's lines; an error is the line's number. The last line is what stands behind the last line feed: it must be empty. -/
noncomputable def readsE : List Bs → Nat → Except Nat (List Ev)
  | [], _ => .ok []
  | [l], i => if l = [] then .ok [] else .error (i + 1)
  | l :: m :: t, i => match readW (spl 32 l) with
    | none => .error (i + 1)
    | some e => match readsE (m :: t) (i + 1) with
      | .error n => .error n
      | .ok es => .ok (e :: es)
noncomputable def parseE (s : Bs) : Except Nat (List Ev) := readsE (spl 10 s) 0
theorem readsE_line (l : Bs) (t : List Bs) (ht : t ≠ []) (i : Nat) : readsE (l :: t) i = match readW (spl 32 l) with
    | none => .error (i + 1)
    | some e => match readsE t (i + 1) with
      | .error n => .error n
      | .ok es => .ok (e :: es) := by
  cases t with
  | nil => exact absurd rfl ht
  | cons m t => rfl
/-- A text that has a line feed: its first line, then the rest. -/
theorem readsE_cut (a b : Bs) (ha : (10 : UInt8) ∉ a) (i : Nat) : readsE (spl 10 (a ++ 10 :: b)) i = match readW (spl 32 a) with
    | none => .error (i + 1)
    | some e => match readsE (spl 10 b) (i + 1) with
      | .error n => .error n
      | .ok es => .ok (e :: es) := by
  rw [spl_app 10 a b ha, readsE_line _ _ (spl_ne 10 b)]
/-- A text with no line feed. -/
theorem readsE_none (a : Bs) (ha : (10 : UInt8) ∉ a) (i : Nat) : readsE (spl 10 a) i = if a = [] then .ok [] else .error (i + 1) := by
  rw [spl_no 10 a ha]
  rfl
end Go.Proofs.YtjhkgoppopfoaaaDoor
