/-
  Plain laws: the words of a line, and decimal numerals as words. No program here.
-/
import Derived.Test.YtjhkgoppopfoaaaDoorPlain
namespace Go.Proofs.YtjhkgoppopfoaaaDoor
set_option linter.unusedVariables false
set_option linter.unusedSimpArgs false
open Go.Lib

/-- What stands between blanks. -/
def wds (l : Bs) : List Bs := (spl 32 l).filter (fun a => !a.isEmpty)

theorem wds_app (a b : Bs) (h : (32 : UInt8) ∉ a) : wds (a ++ 32 :: b) = (if a = [] then [] else [a]) ++ wds b := by
  unfold wds
  rw [spl_app 32 a b h]
  cases a <;> simp
theorem wds_no (a : Bs) (h : (32 : UInt8) ∉ a) : wds a = if a = [] then [] else [a] := by
  unfold wds
  rw [spl_no 32 a h]
  cases a <;> simp

theorem decodeN_hit (n b0 b1 b2 b3 : Nat) (h : (decodeN n b0 b1 b2 b3).1 = 32) : b0 = 32 ∧ (decodeN n b0 b1 b2 b3).2 = 1 := by
  unfold decodeN at h ⊢
  repeat' split at h
  all_goals first | omega | (simp only at h; omega) | skip
  all_goals (rename_i hh; simp only at h; simp [hh]; exact h)
theorem decodeN_miss (n b0 b1 b2 b3 : Nat) (h : (decodeN n b0 b1 b2 b3).1 ≠ 32) :
    b0 ≠ 32 ∧ (2 ≤ (decodeN n b0 b1 b2 b3).2 → b1 ≠ 32) ∧ (3 ≤ (decodeN n b0 b1 b2 b3).2 → b2 ≠ 32) ∧ (4 ≤ (decodeN n b0 b1 b2 b3).2 → b3 ≠ 32) ∧ (decodeN n b0 b1 b2 b3).2 ≤ 4 := by
  unfold decodeN at h ⊢
  repeat' split
  all_goals (simp only; first | omega | (refine ⟨?_, ?_, ?_, ?_, ?_⟩ <;> omega) | skip)
  all_goals simp_all
theorem get!_at (s : ByteArray) (i : Nat) (h : i < s.size) : s.data.toList[i]? = some (s.get! i) := by
  have h' : i < s.data.size := h
  rw [Array.getElem?_toList]
  simp only [ByteArray.get!]
  rw [getElem!_pos s.data i h', Array.getElem?_eq_getElem h']
theorem take_drop_mem {l : Bs} {pos w : Nat} {x : UInt8} (h : x ∈ (l.drop pos).take w) : ∃ j, j < w ∧ l[pos + j]? = some x := by
  obtain ⟨j, hj⟩ := List.mem_iff_getElem?.1 h
  rw [List.getElem?_take] at hj
  split at hj
  · rw [List.getElem?_drop] at hj
    exact ⟨j, by assumption, hj⟩
  · cases hj

theorem fields_eq (s : ByteArray) : ∀ (f pos : Nat) (st : Option Nat) (acc : List (Nat × Nat)), s.size ≤ pos + f → pos ≤ s.size → (∀ a, st = some a → a < pos) → (32 : UInt8) ∉ openPiece s.data.toList st pos →
    acc.map (fun p => pieceU s.data.toList p.1 p.2) ++ wds (openPiece s.data.toList st pos ++ s.data.toList.drop pos) = (closeSpans s (spansFromP (fun r => r == 32) s f pos st acc)).map (fun p => pieceU s.data.toList p.1 p.2)
  | 0, pos, st, acc, h, hp, hst, hno => by
    obtain rfl : pos = s.size := by omega
    have hd : s.data.toList.drop s.size = [] := List.drop_eq_nil_of_le (by rw [← size_eq]; exact Nat.le_refl _)
    rw [hd, List.append_nil, wds_no _ hno]
    cases st with
    | none => simp [spansFromP, closeSpans, openPiece]
    | some a =>
      have := pieceU_ne s.data.toList a s.size (hst a rfl) (by rw [← size_eq]; exact Nat.le_refl _)
      simp [spansFromP, closeSpans, openPiece, this]
  | f + 1, pos, st, acc, h, hp, hst, hno => by
    by_cases hlt : pos < s.size
    · have hw := width_pos s pos
      have hwn : pos + (Utf8.decode s pos).2 ≤ s.size := by
        have := decodeN_le_n' (s.size - pos) (s.get! pos).toNat (s.get! (pos + 1)).toNat (s.get! (pos + 2)).toNat (s.get! (pos + 3)).toNat (by omega)
        rw [← decode_at] at this
        omega
      have hb := get!_at s pos hlt
      simp only [spansFromP, if_pos hlt]
      by_cases hsp : (Utf8.decode s pos).1 = 32
      · have hit := hsp
        rw [decode_at] at hit
        obtain ⟨e0, e1⟩ := decodeN_hit _ _ _ _ _ hit
        rw [← decode_at] at e1
        have eb : s.get! pos = 32 := by
          apply UInt8.toNat_inj.1
          rw [e0]; rfl
        have hdr : s.data.toList.drop pos = 32 :: s.data.toList.drop (pos + 1) := by
          obtain ⟨hl, he⟩ := List.getElem?_eq_some_iff.1 hb
          rw [List.drop_eq_getElem_cons hl, he, eb]
        simp only [hsp, e1, beq_self_eq_true, if_true]
        rw [hdr, wds_app _ _ hno]
        cases st with
        | none =>
          have ih := fields_eq s f (pos + 1) none acc (by omega) (by omega) (fun a h => by cases h) (by simp [openPiece])
          simpa [openPiece] using ih
        | some a =>
          have hpn := pieceU_ne s.data.toList a pos (hst a rfl) (by rw [← size_eq]; omega)
          have ih := fields_eq s f (pos + 1) none (acc ++ [(a, pos)]) (by omega) (by omega) (fun a h => by cases h) (by simp [openPiece])
          simpa [openPiece, hpn] using ih
      · have hmis := hsp
        rw [decode_at] at hmis
        obtain ⟨n0, n1, n2, n3, n4⟩ := decodeN_miss _ _ _ _ _ hmis
        rw [← decode_at] at n1 n2 n3 n4
        have hnot : (32 : UInt8) ∉ (s.data.toList.drop pos).take (Utf8.decode s pos).2 := by
          intro hm
          obtain ⟨j, hj, hx⟩ := take_drop_mem hm
          have hg := get!_at s (pos + j) (by omega)
          rw [hx] at hg
          have hg' : (s.get! (pos + j)).toNat = 32 := by rw [← Option.some.inj hg]; rfl
          obtain rfl | rfl | rfl | rfl : j = 0 ∨ j = 1 ∨ j = 2 ∨ j = 3 := by omega
          · exact n0 hg'
          · exact n1 (by omega) hg'
          · exact n2 (by omega) hg'
          · exact n3 (by omega) hg'
        have hbf : ((Utf8.decode s pos).1 == 32) = false := by simpa using hsp
        simp only [hbf, Bool.false_eq_true, if_false]
        have hsplit : s.data.toList.drop pos = (s.data.toList.drop pos).take (Utf8.decode s pos).2 ++ s.data.toList.drop (pos + (Utf8.decode s pos).2) := by
          rw [← List.drop_drop, List.take_append_drop]
        cases st with
        | none =>
          have e : openPiece s.data.toList none pos ++ (s.data.toList.drop pos).take (Utf8.decode s pos).2 = pieceU s.data.toList pos (pos + (Utf8.decode s pos).2) := by
            unfold pieceU openPiece
            rw [List.nil_append, Nat.add_sub_cancel_left]
          have e' : openPiece s.data.toList (some pos) (pos + (Utf8.decode s pos).2) = pieceU s.data.toList pos (pos + (Utf8.decode s pos).2) := rfl
          have ih := fields_eq s f (pos + (Utf8.decode s pos).2) (some pos) acc (by omega) hwn (fun a h => by cases h; omega) (by rw [e', ← e]; simpa [openPiece] using hnot)
          rw [e', ← e, List.append_assoc, ← hsplit] at ih
          exact ih
        | some a =>
          have e : openPiece s.data.toList (some a) pos ++ (s.data.toList.drop pos).take (Utf8.decode s pos).2 = openPiece s.data.toList (some a) (pos + (Utf8.decode s pos).2) := by
            simp only [openPiece]
            exact pieceU_grow _ _ _ _ (Nat.le_of_lt (hst a rfl))
          have ih := fields_eq s f (pos + (Utf8.decode s pos).2) (some a) acc (by omega) hwn (fun b h => by cases h; have := hst a rfl; omega) (by rw [← e]; simp only [List.mem_append, not_or]; exact ⟨hno, hnot⟩)
          rw [← e, List.append_assoc, ← hsplit] at ih
          exact ih
    · obtain rfl : pos = s.size := by omega
      have hd : s.data.toList.drop s.size = [] := List.drop_eq_nil_of_le (by rw [← size_eq]; exact Nat.le_refl _)
      rw [hd, List.append_nil, wds_no _ hno, spansFromP_end _ s _ _ _ _ hlt]
      cases st with
      | none => simp [closeSpans, openPiece]
      | some a =>
        have := pieceU_ne s.data.toList a s.size (hst a rfl) (by rw [← size_eq]; exact Nat.le_refl _)
        simp [closeSpans, openPiece, this]
/-- strings.FieldsFunc at 'c == blank'. -/
theorem fields_wds (s : ByteArray) : (goFieldsP (fun r => r == 32) s).map (·.data.toList) = wds s.data.toList := by
  have h := fields_eq s s.size 0 none [] (by omega) (Nat.zero_le _) (fun a h => by cases h) (by simp [openPiece])
  simp only [List.map_nil, List.nil_append, openPiece, List.drop_zero] at h
  rw [h]
  unfold goFieldsP spansOfP
  rw [List.map_map]
  congr 1
  funext p
  simp [pieceU, extract_data]

/-! ### numerals -/
theorem decFrom_snoc : ∀ (l : Bs) (acc m : Nat) (b : UInt8) (d : Nat), decFrom acc l = some m → digitVal b = some d → decFrom acc (l ++ [b]) = some (m * 10 + d)
  | [], acc, m, b, d, h, hb => by
    simp only [decFrom] at h
    obtain rfl := Option.some.inj h
    simp [decFrom, hb]
  | x :: l, acc, m, b, d, h, hb => by
    rw [List.cons_append]
    unfold decFrom at h ⊢
    cases hx : digitVal x with
    | none => rw [hx] at h; cases h
    | some e =>
      rw [hx] at h
      simp only at h ⊢
      exact decFrom_snoc l _ m b d h hb
theorem digitVal_of {d : Nat} (h : d < 10) : digitVal (UInt8.ofNat (48 + d)) = some d := by
  have e : (UInt8.ofNat (48 + d)).toNat = 48 + d := by
    rw [UInt8.toNat_ofNat']; omega
  unfold digitVal
  rw [e, if_pos (by omega)]
  simp
theorem decFrom_digits (n : Nat) : decFrom 0 (decDigits n) = some n := by
  induction n using Nat.strongRecOn with
  | _ n ih =>
    rw [decDigits]
    split
    · simp only [decFrom, digitVal_of (by assumption)]
      simp
    · have := decFrom_snoc _ 0 _ _ _ (ih (n / 10) (by omega)) (digitVal_of (d := n % 10) (by omega))
      rw [this]
      congr 1
      omega
theorem digits_digit (n : Nat) : ∀ b ∈ decDigits n, 48 ≤ b.toNat ∧ b.toNat ≤ 57 := by
  induction n using Nat.strongRecOn with
  | _ n ih =>
    intro b hb
    rw [decDigits] at hb
    split at hb
    · simp only [List.mem_singleton] at hb
      subst hb
      rw [UInt8.toNat_ofNat']; omega
    · rcases List.mem_append.1 hb with h | h
      · exact ih (n / 10) (by omega) b h
      · simp only [List.mem_singleton] at h
        subst h
        rw [UInt8.toNat_ofNat']; omega
theorem digits_ne (n : Nat) : decDigits n ≠ [] := by
  rw [decDigits]
  split <;> simp
theorem atoi_digits (n : Nat) : atoi (decDigits n) = some (n : Int) := by
  have hd := digits_digit n
  have hf := decFrom_digits n
  have hne := digits_ne n
  cases hl : decDigits n with
  | nil => exact absurd hl hne
  | cons b r =>
    rw [hl] at hd hf
    have hb := hd b (by simp)
    have h45 : ¬ b = 45 := fun e => by subst e; simp at hb
    have h43 : ¬ b = 43 := fun e => by subst e; simp at hb
    simp [atoi, h45, h43, decNat, hf]
theorem digits_inj {m n : Nat} (h : decDigits m = decDigits n) : m = n := by
  have a := decFrom_digits m
  rw [h, decFrom_digits n] at a
  exact (Option.some.inj a).symm
theorem digits_len {n : Nat} (h : n < 10000000000000000) : (decDigits n).length ≤ 16 := by
  rw [decDigits_length]
  have go : ∀ (k n : Nat), n < 10 ^ (k + 1) → nDigits n ≤ k + 1 := by
    intro k
    induction k with
    | zero => intro n hn; rw [nDigits_small (by simpa using hn)]; exact Nat.le_refl _
    | succ k ih =>
      intro n hn
      by_cases hs : n < 10
      · rw [nDigits_small hs]; omega
      · rw [nDigits_big hs]
        have := ih (n / 10) (by rw [Nat.pow_succ] at hn; omega)
        omega
  exact go 15 n (by simpa using h)
theorem digits_len' {n : Nat} (h : (decDigits n).length ≤ 16) : n < 10000000000000000 := by
  rw [decDigits_length] at h
  have := lt_pow_nDigits n
  have : 10 ^ nDigits n ≤ 10 ^ 16 := Nat.pow_le_pow_right (by decide) h
  omega

/-- A word as the program reads it: the number of a numeral of 16 digits at most. -/
def numP (w : Bs) : Option Nat :=
  match atoiAll w with
  | .ok v => if 0 ≤ v ∧ w.length ≤ 16 ∧ itoa v = w then some v.toNat else none
  | _ => none
theorem numP_digits {n : Nat} (h : (decDigits n).length ≤ 16) : numP (decDigits n) = some n := by
  unfold numP
  rw [atoiAll_short _ (by omega), atoi_digits]
  have e : itoa (n : Int) = decDigits n := by unfold itoa; rw [if_neg (by omega)]; rfl
  simp only [NumEnd.ofOption]
  rw [if_pos ⟨by omega, h, e⟩]
  rfl
theorem numP_some {w : Bs} {n : Nat} (h : numP w = some n) : w = decDigits n ∧ w.length ≤ 16 ∧ n < 10000000000000000 := by
  unfold numP at h
  cases ha : atoiAll w with
  | ok v =>
    rw [ha] at h
    simp only at h
    split at h
    · rename_i hc
      obtain ⟨h0, hl, hi⟩ := hc
      obtain rfl := Option.some.inj h
      have e : itoa v = decDigits v.toNat := by unfold itoa; rw [if_neg (by omega)]
      rw [e] at hi
      refine ⟨hi.symm, hl, digits_len' ?_⟩
      rw [hi]; exact hl
    · cases h
  | _ => rw [ha] at h; cases h
theorem numP_none {w : Bs} (h : numP w = none) (n : Nat) : ¬ (w = decDigits n ∧ w.length ≤ 16) := by
  rintro ⟨rfl, hl⟩
  rw [numP_digits hl] at h
  cases h
end Go.Proofs.YtjhkgoppopfoaaaDoor
