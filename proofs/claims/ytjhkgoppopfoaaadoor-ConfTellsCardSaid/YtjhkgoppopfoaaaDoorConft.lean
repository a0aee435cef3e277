/-
  Plain laws for ConfBack, ConfAgain and ConfFew: how a text is read ends in one of three; a text whose lines are turned round; comparing two settings.
-/
import Derived.Test.YtjhkgoppopfoaaaDoorBase
import Derived.Lib.Replace
namespace Go.Proofs.YtjhkgoppopfoaaaDoor
open Go.RowKit Go.Lib
set_option linter.unusedVariables false
set_option linter.unusedSimpArgs false

set_option maxRecDepth 100000 in
theorem eq_cf (a b : Cf) (w : World) : (binOp .eql 24 a.val b.val).run Tryd.prog w = .ok (.bool (decide (a = b))) w := by
  obtain ⟨a0, a1, a2, a3, a4, a5, a6, a7, a8, a9⟩ := a
  obtain ⟨b0, b1, b2, b3, b4, b5, b6, b7, b8, b9⟩ := b
  simp only [Cf.val, Cf.cells]
  simp [go_sem]
  repeat' split
  all_goals simp_all

/-- How a text that is not too long is read: one of three. -/
theorem parse_cases (t : Bs) (h : t.length ≤ 65536) : (∃ l, parseC t = (Cf.zero, l, 4) ∧ 1 ≤ l ∧ l ≤ 1 + t.count 10) ∨ parseC t = (Cf.zero, 0, 9) ∨ ∃ c : Cf, c.ok ∧ parseC t = (c, 0, 0) := by
  unfold parseC
  rw [if_neg (by omega)]
  cases hr : rd (spl 10 t) 0 St.none with
  | error i =>
    have := rd_err _ _ _ _ hr
    rw [spl_len] at this
    exact Or.inl ⟨i, rfl, by omega, by omega⟩
  | ok st =>
    simp only
    by_cases hk : st.cf.ok
    · rw [if_pos hk]; exact Or.inr (Or.inr ⟨st.cf, hk, rfl⟩)
    · rw [if_neg hk]; exact Or.inr (Or.inl rfl)

/-! ### one space made three -/
theorem rep_one (a b : Bs) (ha : (32 : UInt8) ∉ a) (hb : (32 : UInt8) ∉ b) : replaceAll (a ++ 32 :: b) [32] [32, 32, 32] = a ++ 32 :: 32 :: 32 :: b := by
  have hc : count (a ++ 32 :: b) [32] = 1 := by
    rw [count_one, List.count_append, List.count_eq_zero.2 ha, List.count_cons_self, List.count_eq_zero.2 hb]
  unfold replaceAll replace
  rw [if_neg (by decide)]
  have hn : replaceNum (a ++ 32 :: b) [32] (-1) = 1 := by
    unfold replaceNum; rw [if_pos (Or.inl (by decide)), hc]
  rw [hn, replaceK_hit _ _ 0 _ a.length (index_one_hit 32 a b ha)]
  have hd : (a ++ 32 :: b).drop (a.length + 1) = b := by
    rw [List.drop_append, List.drop_eq_nil_of_le (by omega)]; simp
  simp [replaceK, hd]

/-! ### a text whose lines are turned round -/
def turnL (c : Cf) (k : Nat) : Bs := [32, 32] ++ (nm k ++ 32 :: 32 :: 32 :: itoa (c.num k)) ++ [32]
def turnT (c : Cf) (s i : Nat) : Bs := [35, 32, 116, 117, 114, 110, 101, 100, 10, 10] ++ (List.range i).flatMap fun j => turnL c ((j + s) % 10) ++ 10 :: [32, 35, 10]
theorem turnT_succ (c : Cf) (s i : Nat) : turnT c s (i + 1) = turnT c s i ++ (turnL c ((i + s) % 10) ++ 10 :: [32, 35, 10]) := by simp [turnT, List.range_succ]
theorem rowT_rep {c : Cf} (h : c.ok) {k : Nat} (hk : k < 10) : replaceAll (rowT c k) [32] [32, 32, 32] = nm k ++ 32 :: 32 :: 32 :: itoa (c.num k) := by
  obtain ⟨n, hn, _, _, _⟩ := Cf.num_nat h k
  unfold rowT
  rw [hn, itoa_nat]
  exact rep_one _ _ (nm_free hk).2.1 (digits_free n 32 (by decide))
theorem turnL_wds {c : Cf} (h : c.ok) {k : Nat} (hk : k < 10) : wds (turnL c k) = wds (rowT c k) := by
  obtain ⟨n, hn, _, _, _⟩ := Cf.num_nat h k
  rw [rowT_wds h hk hn]
  unfold turnL
  rw [hn, itoa_nat]
  have e : [32, 32] ++ (nm k ++ 32 :: 32 :: 32 :: decDigits n) ++ [32] = [] ++ 32 :: ([] ++ 32 :: (nm k ++ 32 :: ([] ++ 32 :: ([] ++ 32 :: (decDigits n ++ 32 :: []))))) := by simp
  rw [e, wds_app _ _ (by simp), wds_app _ _ (by simp), wds_app _ _ (nm_free hk).2.1, wds_app _ _ (by simp), wds_app _ _ (by simp), wds_app _ _ (digits_free n 32 (by decide)), if_neg (nm_free hk).2.2.1, if_neg (digits_ne n)]
  simp [wds, spl]
theorem turnL_free {c : Cf} (h : c.ok) {k : Nat} (hk : k < 10) : (10 : UInt8) ∉ turnL c k := by
  obtain ⟨n, hn, _, _, _⟩ := Cf.num_nat h k
  unfold turnL
  rw [hn, itoa_nat]
  simp only [List.mem_append, List.mem_cons, not_or, List.not_mem_nil, not_false_eq_true, and_true]
  exact ⟨⟨by decide, (nm_free hk).1, by decide, by decide, by decide, digits_free n 10 (by decide)⟩, by decide⟩
theorem turnL_len {c : Cf} (h : c.ok) {k : Nat} (hk : k < 10) : (turnL c k).length ≤ 30 := by
  have := rowT_len h hk
  unfold rowT at this
  unfold turnL
  simp only [List.length_append, List.length_cons, List.length_nil] at this ⊢
  omega
theorem turnT_len {c : Cf} (h : c.ok) (s i : Nat) : (turnT c s i).length ≤ 10 + 34 * i := by
  induction i with
  | zero => simp [turnT]
  | succ i ih =>
    have := turnL_len h (k := (i + s) % 10) (by omega)
    rw [turnT_succ, List.length_append, List.length_append]
    simp only [List.length_cons, List.length_nil]
    omega
theorem turn_spl {c : Cf} (h : c.ok) (rest : Bs) : ∀ (l : List Nat), (∀ k ∈ l, k < 10) → spl 10 ((l.flatMap fun k => turnL c k ++ 10 :: [32, 35, 10]) ++ rest) = (l.flatMap fun k => [turnL c k, [32, 35]]) ++ spl 10 rest
  | [], _ => by simp
  | k :: l, hl => by
    have ih := turn_spl h rest l (fun j hj => hl j (by simp [hj]))
    have e : ((k :: l).flatMap fun k => turnL c k ++ 10 :: [32, 35, 10]) ++ rest = turnL c k ++ 10 :: ([32, 35] ++ 10 :: ((l.flatMap fun k => turnL c k ++ 10 :: [32, 35, 10]) ++ rest)) := by simp
    rw [e, spl_app 10 _ _ (turnL_free h (hl k (by simp))), spl_app 10 _ _ (by decide), ih]
    simp
theorem rd_turn {c : Cf} (h : c.ok) : ∀ (l : List Nat) (i : Nat) (f : Nat → Bool), (∀ k ∈ l, k < 10 ∧ f k = false) → l.Nodup → ∃ g, rd (l.flatMap fun k => [turnL c k, [32, 35]]) i (stOf c f) = .ok (stOf c g) ∧ ∀ j, j < 10 → g j = (f j || l.contains j)
  | [], i, f, _, _ => ⟨f, rfl, by simp⟩
  | k :: l, i, f, hl, hn => by
    have hk := hl k (by simp)
    have hn' := List.nodup_cons.1 hn
    obtain ⟨g, hg, hgj⟩ := rd_turn h l (i + 1 + 1) (fun j => f j || j == k) (fun j hj => by
      have := hl j (by simp [hj])
      refine ⟨this.1, ?_⟩
      have : j ≠ k := fun e => hn'.1 (e ▸ hj)
      simp [*]) hn'.2
    refine ⟨g, ?_, fun j hj => ?_⟩
    · have e : ((k :: l).flatMap fun k => [turnL c k, [32, 35]]) = turnL c k :: [32, 35] :: (l.flatMap fun k => [turnL c k, [32, 35]]) := by simp
      rw [e]
      simp only [rd]
      rw [rd_row h hk.1 hk.2 (fun j _ => rfl) (turnL_wds h hk.1)]
      simp only
      rw [rdLine_note (w := [35]) (ws := []) _ (by decide) (by decide)]
      exact hg
    · rw [hgj j hj]
      have e1 : (k :: l).contains j = ((j == k) || l.contains j) := List.contains_cons
      rw [e1, Bool.or_assoc]
theorem parse_turn {c : Cf} (h : c.ok) (s : Nat) : parseC (turnT c s 10) = (c, 0, 0) := by
  unfold parseC
  have hl := turnT_len h s 10
  rw [if_neg (by omega)]
  let L := (List.range 10).map fun j => (j + s) % 10
  have hL : ∀ k, k ∈ L → k < 10 := by
    intro k hk
    obtain ⟨j, _, rfl⟩ := List.mem_map.1 hk
    omega
  have hLn : L.Nodup := by
    have h0 : (List.range 10).Pairwise fun a b => (a + s) % 10 ≠ (b + s) % 10 := by
      refine List.Pairwise.imp_of_mem (fun {a b} ha hb hab => ?_) (List.pairwise_lt_range (n := 10))
      have ha := List.mem_range.1 ha
      have hb := List.mem_range.1 hb
      omega
    exact List.pairwise_map.2 h0
  have e : turnT c s 10 = [35, 32, 116, 117, 114, 110, 101, 100] ++ 10 :: ([] ++ 10 :: ((L.flatMap fun k => turnL c k ++ 10 :: [32, 35, 10]) ++ [])) := by
    simp [turnT, L, List.flatMap_map]
  rw [e, spl_app 10 _ _ (by decide), spl_app 10 _ _ (by simp), turn_spl h [] L hL]
  obtain ⟨g, hg, hgj⟩ := rd_turn h L 2 (fun _ => false) (fun k hk => ⟨hL k hk, rfl⟩) hLn
  rw [stOf_none] at hg
  simp only [rd]
  rw [rdLine_note (w := [35]) (ws := [[116, 117, 114, 110, 101, 100]]) _ (by decide) (by decide)]
  simp only
  rw [rdLine_blank _ (by decide)]
  simp only
  rw [rd_app _ _ _ _ _ hg]
  have he : ∀ i, rd (spl 10 []) i (stOf c g) = .ok (stOf c g) := by
    intro i
    simp only [spl, rd]
    rw [rdLine_blank _ (by decide)]
  rw [he]
  have hcf : (stOf c g).cf = c := stOf_cf h g (fun k hk e => by
    rw [hgj k hk] at e
    have : k ∈ L := List.mem_map.2 ⟨(k + 10 - s % 10) % 10, by simp; omega, by omega⟩
    simp [this] at e)
  simp only [hcf, if_pos h]
end Go.Proofs.YtjhkgoppopfoaaaDoor
