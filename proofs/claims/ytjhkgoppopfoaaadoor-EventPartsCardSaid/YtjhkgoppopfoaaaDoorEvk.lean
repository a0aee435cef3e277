/-
  How the document reads a line: plain.
-/
import Derived.Test.YtjhkgoppopfoaaaDoorEvg
namespace Go.Proofs.YtjhkgoppopfoaaaDoor
open Go.RowKit Go.Lib
set_option linter.unusedVariables false
set_option linter.unusedSimpArgs false

/-- A word's number, as the document takes it. -/
def numR (w : Bs) : Int := if w.length = 0 ∨ 16 < w.length then -1 else match decFrom 0 w with
  | some n => (n : Int)
  | none => -1
theorem decFrom_lt : ∀ (l : Bs) (a n : Nat), decFrom a l = some n → n < (a + 1) * 10 ^ l.length
  | [], a, n, h => by
    simp only [decFrom, Option.some.injEq] at h
    subst h
    simp
  | b :: l, a, n, h => by
    unfold decFrom at h
    cases hb : digitVal b with
    | none => rw [hb] at h; cases h
    | some d =>
      rw [hb] at h
      have hd : d < 10 := by
        unfold digitVal at hb
        split at hb
        · cases hb; omega
        · cases hb
      have := decFrom_lt l _ n h
      have h2 : (a * 10 + d + 1) * 10 ^ l.length ≤ (a + 1) * 10 * 10 ^ l.length := Nat.mul_le_mul_right _ (by omega)
      rw [List.length_cons, Nat.pow_succ, Nat.mul_comm (10 ^ l.length) 10, ← Nat.mul_assoc]
      omega
theorem numR_range (w : Bs) : -1 ≤ numR w ∧ numR w ≤ 10000000000000000 := by
  unfold numR
  split
  · omega
  · rename_i h
    split
    · rename_i n hn
      have h1 := decFrom_lt w 0 n hn
      have h2 : 10 ^ w.length ≤ 10 ^ 16 := Nat.pow_le_pow_right (by decide) (by omega)
      have h3 : (10 : Nat) ^ 16 = 10000000000000000 := by decide
      omega
    · omega
theorem numR_itoa {v : Int} (h0 : 0 ≤ v) (h1 : v ≤ 9007199254740991) : numR (itoa v) = v := by
  obtain ⟨n, rfl⟩ : ∃ n : Nat, v = (n : Int) := ⟨v.toNat, by omega⟩
  have hl := digits_len (n := n) (by omega)
  have hne := digits_ne n
  rw [itoa_nat]
  unfold numR
  rw [if_neg, decFrom_digits]
  intro h
  rcases h with h | h
  · exact hne (List.length_eq_zero_iff.1 h)
  · omega
def wn (ws : List Bs) (i : Nat) : Int := numR ((ws[i]?).getD [])
def readR (ws : List Bs) : Ev :=
  if ws.head? = some (word 1) then ⟨1, wn ws 1, wn ws 2, wn ws 3⟩
  else if ws.head? = some (word 2) then ⟨2, wn ws 1, wn ws 2, wn ws 3⟩
  else if ws.head? = some (word 3) then ⟨3, wn ws 1, 0, wn ws 2⟩
  else if ws.head? = some (word 4) then ⟨4, 0, 0, wn ws 1⟩
  else if ws.head? = some (word 5) then ⟨5, wn ws 1, 0, 0⟩
  else ⟨6, 0, 0, wn ws 1⟩
theorem readR_wf (ws : List Bs) : (readR ws).wf := by
  have h1 := numR_range ((ws[1]?).getD [])
  have h2 := numR_range ((ws[2]?).getD [])
  have h3 := numR_range ((ws[3]?).getD [])
  intro c
  unfold readR wn
  repeat' split
  all_goals
    unfold Ev.at
    split <;> simp only <;> omega
theorem readR_line {e : Ev} (h : e.ok) : readR (spl 32 (preL e (fds e.k.toNat))) = e := by
  have hn : ∀ f ∈ fds e.k.toNat, numR (itoa (e.at f.c)) = e.at f.c := fun f hf => by
    obtain ⟨h0, h1⟩ := ok_range h f hf
    exact numR_itoa h0 h1
  rw [preL_spl h]
  obtain ⟨k, sp, nu, n⟩ := e
  obtain ⟨hk, -, hz⟩ := h
  simp only at hk hz hn ⊢
  have z1 := hz 1 (by decide)
  have z2 := hz 2 (by decide)
  have z3 := hz 3 (by decide)
  clear hz
  obtain rfl | rfl | rfl | rfl | rfl | rfl : k = 1 ∨ k = 2 ∨ k = 3 ∨ k = 4 ∨ k = 5 ∨ k = 6 := by omega
  all_goals (simp [fds, Ev.at] at z1 z2 z3 hn)
  all_goals (simp [fds, readR, wn, word, Ev.at])
  all_goals (simp [*])
/-- The document's way to look at a line: what it is read as has this line. -/
theorem read_same (l : Bs) : ((readR (spl 32 l)).ok ∧ lineE (readR (spl 32 l)) = l ++ [10] → readW (spl 32 l) = some (readR (spl 32 l))) ∧ (¬ ((readR (spl 32 l)).ok ∧ lineE (readR (spl 32 l)) = l ++ [10]) → readW (spl 32 l) = none) := by
  refine ⟨fun h => readW_iff.2 h, fun h => ?_⟩
  cases hw : readW (spl 32 l) with
  | none => rfl
  | some e =>
    exfalso
    obtain ⟨hok, hl⟩ := readW_iff.1 hw
    have hp : l = preL e (fds e.k.toNat) := (List.append_cancel_right hl).symm
    apply h
    rw [hp, readR_line hok]
    exact ⟨hok, rfl⟩
end Go.Proofs.YtjhkgoppopfoaaaDoor
