/-
  Plain laws on lists of bytes: a list cut at a byte, words between blanks, decimal numerals. No program here.
-/
import Derived.Lib.ItoaLen
import Derived.Lib.AtoiTie
import Derived.Lib.SplitLaws
import Derived.Lib.FieldsP
import Derived.Lib.TrimUEq
namespace Go.Proofs.YtjhkgoppopfoaaaDoor
set_option linter.unusedVariables false
set_option linter.unusedSimpArgs false
open Go.Lib
abbrev Bs := List UInt8

/-- A list cut at each c. -/
def spl (c : UInt8) : Bs → List Bs
  | [] => [[]]
  | x :: r => if x = c then [] :: spl c r else match spl c r with
    | [] => [[x]]
    | h :: t => (x :: h) :: t

theorem spl_ne (c : UInt8) : ∀ l, spl c l ≠ []
  | [] => by simp [spl]
  | x :: r => by
    unfold spl
    split
    · simp
    · split <;> simp
theorem spl_eq (c : UInt8) (r : Bs) : spl c (c :: r) = [] :: spl c r := by simp [spl]
theorem spl_cons (c x : UInt8) (h : x ≠ c) (r : Bs) : ∃ a t, spl c r = a :: t ∧ spl c (x :: r) = (x :: a) :: t := by
  cases e : spl c r with
  | nil => exact absurd e (spl_ne c r)
  | cons a t => exact ⟨a, t, rfl, by simp [spl, h, e]⟩
theorem spl_app (c : UInt8) : ∀ (a b : Bs), c ∉ a → spl c (a ++ c :: b) = a :: spl c b
  | [], b, _ => by simp [spl]
  | x :: a, b, h => by
    simp only [List.mem_cons, not_or] at h
    have ih := spl_app c a b h.2
    rw [List.cons_append, spl, if_neg (fun e => h.1 e.symm), ih]
theorem spl_no (c : UInt8) : ∀ (a : Bs), c ∉ a → spl c a = [a]
  | [], _ => by simp [spl]
  | x :: a, h => by
    simp only [List.mem_cons, not_or] at h
    rw [spl, if_neg (fun e => h.1 e.symm), spl_no c a h.2]
theorem spl_mem (c : UInt8) : ∀ (l : Bs), ∀ a ∈ spl c l, c ∉ a
  | [], a, h => by simp [spl] at h; subst h; simp
  | x :: r, a, h => by
    by_cases e : x = c
    · subst e
      rw [spl_eq] at h
      rcases List.mem_cons.1 h with rfl | h
      · simp
      · exact spl_mem _ r a h
    · obtain ⟨b, t, e1, e2⟩ := spl_cons c x e r
      have ih := spl_mem c r
      rw [e1] at ih
      rw [e2] at h
      rcases List.mem_cons.1 h with rfl | h
      · have := ih b (by simp)
        simp only [List.mem_cons, not_or]
        exact ⟨fun k => e k.symm, this⟩
      · exact ih a (by simp [h])
theorem spl_len (c : UInt8) : ∀ (l : Bs), (spl c l).length = l.count c + 1
  | [] => by simp [spl]
  | x :: r => by
    by_cases e : x = c
    · subst e
      rw [spl_eq]
      simp [spl_len x r]
    · obtain ⟨b, t, e1, e2⟩ := spl_cons c x e r
      have ih := spl_len c r
      rw [e1] at ih
      rw [e2, List.count_cons_of_ne (by simpa using e)]
      simpa using ih
/-- The head piece and what stands behind it. -/
theorem spl_hit (c : UInt8) : ∀ (l : Bs), c ∈ l → ∃ a b, l = a ++ c :: b ∧ c ∉ a ∧ spl c l = a :: spl c b
  | [], h => by simp at h
  | x :: r, h => by
    by_cases e : x = c
    · subst e
      exact ⟨[], r, rfl, by simp, spl_eq _ _⟩
    · have hr : c ∈ r := by
        rcases List.mem_cons.1 h with h | h
        · exact absurd h.symm e
        · exact h
      obtain ⟨a, b, rfl, ha, _⟩ := spl_hit c r hr
      have ha' : c ∉ x :: a := by
        simp only [List.mem_cons, not_or]
        exact ⟨fun k => e k.symm, ha⟩
      exact ⟨x :: a, b, rfl, ha', by rw [← List.cons_append, spl_app c _ _ ha']⟩

theorem index_one_no (c : UInt8) : ∀ (l : Bs), c ∉ l → index l [c] = -1
  | [], _ => by simp [index]
  | x :: r, h => by
    simp only [List.mem_cons, not_or] at h
    have hp : ([c] : Bs).isPrefixOf (x :: r) = false := by simp [List.isPrefixOf, h.1]
    rw [index, hp, index_one_no c r h.2]
    simp
theorem index_one_hit (c : UInt8) : ∀ (a b : Bs), c ∉ a → index (a ++ c :: b) [c] = (a.length : Int)
  | [], b, _ => by simp [index, List.isPrefixOf]
  | x :: a, b, h => by
    simp only [List.mem_cons, not_or] at h
    have hp : ([c] : Bs).isPrefixOf (x :: (a ++ c :: b)) = false := by simp [List.isPrefixOf, h.1]
    rw [List.cons_append, index, hp, index_one_hit c a b h.2]
    have : ¬ ((a.length : Int) == -1) = true := by simp
    simp [this]
theorem splitK_spl (c : UInt8) : ∀ (k : Nat) (l : Bs), l.count c = k → splitK [c] 0 k l = spl c l
  | 0, l, h => by
    have : c ∉ l := by rw [← List.count_eq_zero]; exact h
    rw [spl_no c l this, splitK]
  | k + 1, l, h => by
    have hm : c ∈ l := by rw [← List.count_pos_iff]; omega
    obtain ⟨a, b, rfl, ha, he⟩ := spl_hit c l hm
    have hc : b.count c = k := by
      rw [List.count_append, List.count_eq_zero.2 ha, List.count_cons_self] at h
      omega
    have hd : (a ++ c :: b).drop (a.length + 1) = b := by
      rw [List.drop_append, List.drop_eq_nil_of_le (by omega)]; simp
    have hix := index_one_hit c a b ha
    simp only [splitK, hix, he]
    rw [if_neg (by simp)]
    simp only [Int.toNat_natCast, List.length_cons, List.length_nil, Nat.add_zero, Nat.zero_add, hd, splitK_spl c k b hc]
    simp
theorem split_spl (c : UInt8) (l : Bs) : split l [c] = spl c l := by
  unfold split
  rw [count_one]
  exact splitK_spl c _ l rfl
theorem splitB_spl (c : UInt8) (s : ByteArray) : (splitB ⟨#[c]⟩ 0 (countB s ⟨#[c]⟩) s).map (·.data.toList) = spl c s.data.toList := by
  rw [splitB_data]
  have : countB s ⟨#[c]⟩ = s.data.toList.count c := by
    unfold countB
    exact count_one c _
  rw [this]
  exact splitK_spl c _ _ rfl
theorem cut_no (c : UInt8) (l : Bs) (h : c ∉ l) : cut l [c] = (l, [], false) := by
  unfold cut
  rw [index_one_no c l h]
  simp
theorem cut_hit (c : UInt8) (a b : Bs) (h : c ∉ a) : cut (a ++ c :: b) [c] = (a, b, true) := by
  unfold cut
  rw [index_one_hit c a b h]
  have hd : (a ++ c :: b).drop (a.length + 1) = b := by
    rw [List.drop_append, List.drop_eq_nil_of_le (by omega)]; simp
  rw [if_pos (by omega)]
  simp [hd]
end Go.Proofs.YtjhkgoppopfoaaaDoor
