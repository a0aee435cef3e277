/-
  How a line is read as an event: plain.
-/
import Derived.Test.YtjhkgoppopfoaaaDoorEvl
namespace Go.Proofs.YtjhkgoppopfoaaaDoor
open Go.RowKit Go.Lib
set_option linter.unusedVariables false
set_option linter.unusedSimpArgs false

/-- A word's number, as the program takes it: the numeral that Itoa gives back, of 16 bytes at most. -/
def numZ (w : Bs) : Option Int := match atoiAll w with
  | .ok v => if w.length ≤ 16 ∧ itoa v = w then some v else none
  | _ => none
def setF (e : Ev) (c : Nat) (v : Int) : Ev := match c with
  | 1 => { e with sp := v }
  | 2 => { e with nu := v }
  | _ => { e with n := v }
def fillE : List Fd → List Bs → Ev → Option Ev
  | [], _, e => some e
  | _ :: _, [], _ => none
  | f :: l, w :: ws, e => match numZ w with
    | none => none
    | some v => fillE l ws (setF e f.c v)
def fits (ws : List Bs) (k : Nat) : Prop := (1 ≤ k ∧ k ≤ 6) ∧ ws.head? = some (word k) ∧ ws.length = (fds k).length + 1
theorem word_inj {i j : Nat} (hi : 1 ≤ i ∧ i ≤ 6) (hj : 1 ≤ j ∧ j ≤ 6) (h : word i = word j) : i = j := by
  obtain rfl | rfl | rfl | rfl | rfl | rfl : i = 1 ∨ i = 2 ∨ i = 3 ∨ i = 4 ∨ i = 5 ∨ i = 6 := by omega
  all_goals (obtain rfl | rfl | rfl | rfl | rfl | rfl : j = 1 ∨ j = 2 ∨ j = 3 ∨ j = 4 ∨ j = 5 ∨ j = 6 := by omega)
  all_goals (first | rfl | (exfalso; simp [word] at h))
theorem fits_one {ws : List Bs} {i j : Nat} (hi : fits ws i) (hj : fits ws j) : i = j := word_inj hi.1 hj.1 (Option.some.inj (hi.2.1.symm.trans hj.2.1))
/-- The event that a row of words is. -/
def Reads (ws : List Bs) (e : Ev) : Prop := ∃ k, fits ws k ∧ fillE (fds k) ws.tail ⟨(k : Int), 0, 0, 0⟩ = some e ∧ e.ok
open Classical in
noncomputable def readW (ws : List Bs) : Option Ev := if h : ∃ e, Reads ws e then some h.choose else none
theorem readW_some {ws : List Bs} {e : Ev} (h : Reads ws e) : readW ws = some e := by
  have hx : ∃ e, Reads ws e := ⟨e, h⟩
  unfold readW
  rw [dif_pos hx]
  obtain ⟨k, hk, hf, hok⟩ := hx.choose_spec
  obtain ⟨k', hk', hf', hok'⟩ := h
  obtain rfl := fits_one hk hk'
  rw [hf] at hf'
  exact hf'
theorem readW_none {ws : List Bs} (h : ∀ e, ¬ Reads ws e) : readW ws = none := by
  unfold readW
  rw [dif_neg (fun ⟨e, he⟩ => h e he)]
theorem fill_snoc (f : Fd) (w : Bs) (v : Int) (hv : numZ w = some v) (l : List Fd) : ∀ (ws : List Bs) (e e1 : Ev), l.length = ws.length → fillE l ws e = some e1 → fillE (l ++ [f]) (ws ++ [w]) e = some (setF e1 f.c v) := by
  induction l with
  | nil =>
    intro ws e e1 hl h
    cases ws with
    | nil =>
      simp only [fillE, Option.some.injEq] at h
      subst h
      simp only [List.nil_append, fillE, hv]
    | cons x ws => simp at hl
  | cons g l ih =>
    intro ws e e1 hl h
    cases ws with
    | nil => simp at hl
    | cons x ws =>
      simp only [fillE, List.cons_append] at h ⊢
      cases hx : numZ x with
      | none => rw [hx] at h; cases h
      | some u =>
        rw [hx] at h
        simp only at h ⊢
        exact ih ws _ e1 (by simpa using hl) h
theorem fill_none : ∀ (l : List Fd) (ws : List Bs) (e : Ev) (j : Nat) (w : Bs), ws[j]? = some w → j < l.length → numZ w = none → fillE l ws e = none
  | f :: l, x :: ws, e, 0, w, h, _, hv => by
    simp only [List.getElem?_cons_zero, Option.some.injEq] at h
    subst h
    simp [fillE, hv]
  | f :: l, x :: ws, e, j + 1, w, h, hj, hv => by
    simp only [fillE]
    split
    · rfl
    · exact fill_none l ws _ j w (by simpa using h) (by simpa using hj) hv
  | f :: l, [], e, j, w, h, _, _ => by simp at h
  | [], ws, e, j, w, _, hj, _ => by simp at hj
theorem fill_take {l : List Fd} {ws : List Bs} {e e1 : Ev} {j : Nat} {f : Fd} {w : Bs} {v : Int} (h : fillE (l.take j) (ws.take j) e = some e1) (hf : l[j]? = some f) (hw : ws[j]? = some w) (hv : numZ w = some v) : fillE (l.take (j + 1)) (ws.take (j + 1)) e = some (setF e1 f.c v) := by
  have hj1 : j < l.length := by
    rcases Nat.lt_or_ge j l.length with h | h
    · exact h
    · rw [List.getElem?_eq_none h] at hf; cases hf
  have hj2 : j < ws.length := by
    rcases Nat.lt_or_ge j ws.length with h | h
    · exact h
    · rw [List.getElem?_eq_none h] at hw; cases hw
  have e2 : l.take (j + 1) = l.take j ++ [f] := by rw [List.take_add_one, hf]; rfl
  have e3 : ws.take (j + 1) = ws.take j ++ [w] := by rw [List.take_add_one, hw]; rfl
  rw [e2, e3]
  exact fill_snoc f w v hv _ _ _ _ (by simp; omega) h
end Go.Proofs.YtjhkgoppopfoaaaDoor
