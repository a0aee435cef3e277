/-
  Plain law for ConfFew: lines that are left out are those of the default that is no server.
-/
import Derived.Test.YtjhkgoppopfoaaaDoorConft
namespace Go.Proofs.YtjhkgoppopfoaaaDoor
open Go.RowKit Go.Lib
set_option linter.unusedVariables false
set_option linter.unusedSimpArgs false

def fewT (c : Cf) (f : Nat → Bool) (i : Nat) : Bs := (List.range i).flatMap fun k => if f k then rowT c k ++ [10] else []
def mixR (c d : Cf) (f : Nat → Bool) (k : Nat) : Bs := if f k then rowT c k else rowT d k
def mixN (c d : Cf) (f : Nat → Bool) (k : Nat) : Int := if f k then c.num k else d.num k
def fewU (c d : Cf) (f : Nat → Bool) (i : Nat) : Bs := (List.range i).flatMap fun k => mixR c d f k ++ [10]
theorem fewT_succ (c : Cf) (f : Nat → Bool) (i : Nat) : fewT c f (i + 1) = fewT c f i ++ if f i then rowT c i ++ [10] else [] := by simp [fewT, List.range_succ]
theorem fewU_succ (c d : Cf) (f : Nat → Bool) (i : Nat) : fewU c d f (i + 1) = fewU c d f i ++ (mixR c d f i ++ [10]) := by simp [fewU, List.range_succ]
theorem fewT_filter (c d : Cf) (f : Nat → Bool) : ∀ l : List Nat, (l.flatMap fun k => if f k then rowT c k ++ [10] else []) = (l.filter f).flatMap fun k => mixR c d f k ++ [10]
  | [] => rfl
  | k :: l => by
    rw [List.flatMap_cons, fewT_filter c d f l]
    cases h : f k
    · rw [List.filter_cons_of_neg (by simp [h])]; simp
    · rw [List.filter_cons_of_pos h, List.flatMap_cons]; simp [mixR, h]
theorem mixR_free {c d : Cf} (hc : c.ok) (hd : d.ok) (f : Nat → Bool) {k : Nat} (hk : k < 10) : (10 : UInt8) ∉ mixR c d f k := by
  unfold mixR; split
  · exact rowT_free hc hk
  · exact rowT_free hd hk
theorem mixR_len {c d : Cf} (hc : c.ok) (hd : d.ok) (f : Nat → Bool) {k : Nat} (hk : k < 10) : (mixR c d f k).length ≤ 25 := by
  unfold mixR; split
  · exact rowT_len hc hk
  · exact rowT_len hd hk
theorem rdLine_row {c : Cf} (h : c.ok) {k : Nat} (hk : k < 10) {st : St} (hst : st k = none) : rdLine (rowT c k) st = some (st.put k (c.num k).toNat) := by
  obtain ⟨n, hn, _, hl, h0⟩ := Cf.num_nat h k
  rw [rdLine_put st hk (rowT_wds h hk hn) hl hst h0, hn]
  rfl
theorem rdLine_mix {c d : Cf} (hc : c.ok) (hd : d.ok) (f : Nat → Bool) {k : Nat} (hk : k < 10) {st : St} (hst : st k = none) : rdLine (mixR c d f k) st = some (st.put k (mixN c d f k).toNat) := by
  unfold mixR mixN; split
  · exact rdLine_row hc hk hst
  · exact rdLine_row hd hk hst
theorem rd_mix {c d : Cf} (hc : c.ok) (hd : d.ok) (f : Nat → Bool) : ∀ (l : List Nat) (i : Nat) (st : St), (∀ k ∈ l, k < 10 ∧ st k = none) → l.Nodup → ∃ st', rd (l.map (mixR c d f)) i st = .ok st' ∧ ∀ j, st' j = if l.contains j then some (mixN c d f j).toNat else st j
  | [], i, st, _, _ => ⟨st, rfl, by simp⟩
  | k :: l, i, st, hl, hn => by
    have hk := hl k (by simp)
    have hn' := List.nodup_cons.1 hn
    obtain ⟨st', hs, hj⟩ := rd_mix hc hd f l (i + 1) (st.put k (mixN c d f k).toNat) (fun j hj => by
      have := hl j (by simp [hj])
      refine ⟨this.1, ?_⟩
      have e : j ≠ k := fun e => hn'.1 (e ▸ hj)
      unfold St.put; rw [if_neg e]; exact this.2) hn'.2
    refine ⟨st', ?_, fun j => ?_⟩
    · simp only [List.map_cons, rd]
      rw [rdLine_mix hc hd f hk.1 hk.2]
      exact hs
    · rw [hj j, List.contains_cons]
      by_cases e : j = k
      · subst e
        have hnc : l.contains j = false := by simpa using hn'.1
        simp [hnc, St.put]
      · have : (j == k) = false := by simp [e]
        simp [this, St.put, e]
theorem mixN_nat {c d : Cf} (hc : c.ok) (hd : d.ok) (f : Nat → Bool) (k : Nat) : (((mixN c d f k).toNat : Nat) : Int) = mixN c d f k := by
  unfold mixN; split
  · have := Cf.num_range hc k; omega
  · have := Cf.num_range hd k; omega
theorem rd_last (st : St) (i : Nat) : rd [[]] i st = .ok st := by
  simp only [rd]
  rw [rdLine_blank _ (by decide)]
/-- Rows, each once, one behind the other, are read. -/
theorem parse_mix {c d : Cf} (hc : c.ok) (hd : d.ok) (f : Nat → Bool) (l : List Nat) (hl : ∀ k ∈ l, k < 10) (hn : l.Nodup) (hlen : l.length ≤ 10) :
    ∃ st : St, parseC (l.flatMap fun k => mixR c d f k ++ [10]) = (if st.cf.ok then (st.cf, 0, 0) else (Cf.zero, 0, 9)) ∧ ∀ j, st j = if l.contains j then some (mixN c d f j).toNat else none := by
  obtain ⟨st, hs, hj⟩ := rd_mix hc hd f l 0 St.none (fun k hk => ⟨hl k hk, rfl⟩) hn
  refine ⟨st, ?_, hj⟩
  have hlen : (l.flatMap fun k => mixR c d f k ++ [10]).length ≤ 26 * l.length := by
    clear hs hj hn hlen
    induction l with
    | nil => simp
    | cons k l ih =>
      have h1 := mixR_len hc hd f (hl k (by simp))
      have h2 := ih (fun j hj => hl j (by simp [hj]))
      simp only [List.flatMap_cons, List.length_append, List.length_cons, List.length_nil]
      omega
  have hsp : spl 10 (l.flatMap fun k => mixR c d f k ++ [10]) = l.map (mixR c d f) ++ [[]] := by
    have := spl_flat 10 (mixR c d f) [] l (fun k hk => mixR_free hc hd f (hl k hk))
    rw [List.append_nil] at this
    simpa [spl] using this
  unfold parseC
  rw [if_neg (by omega), hsp, rd_app _ _ _ _ _ hs, rd_last]
theorem cf_of_val {s t : St} (h : ∀ k, k < 10 → s.val k = t.val k) : s.cf = t.cf := by
  unfold St.cf
  rw [h 0 (by decide), h 1 (by decide), h 2 (by decide), h 3 (by decide), h 4 (by decide), h 5 (by decide), h 6 (by decide), h 7 (by decide), h 8 (by decide), h 9 (by decide)]
theorem dfl_ok : (Cf.dflt false).ok := by unfold Cf.ok Cf.dflt; decide
theorem parse_few {c : Cf} (hc : c.ok) (f : Nat → Bool) : ∃ (x : Cf) (e : Int), parseC (fewT c f 10) = (x, 0, e) ∧ parseC (fewU c (Cf.dflt false) f 10) = (x, 0, e) ∧ (e = 0 ∨ e = 9) := by
  obtain ⟨st, hs, hj⟩ := parse_mix hc dfl_ok f ((List.range 10).filter f) (fun k hk => by simpa using (List.mem_filter.1 hk).1) (List.nodup_range.filter _) (by have := List.length_filter_le f (List.range 10); simpa using this)
  obtain ⟨su, hu, hk⟩ := parse_mix hc dfl_ok f (List.range 10) (fun k hk => by simpa using hk) List.nodup_range (by simp)
  have e1 : (((List.range 10).filter f).flatMap fun k => mixR c (Cf.dflt false) f k ++ [10]) = fewT c f 10 := by
    unfold fewT
    rw [fewT_filter c (Cf.dflt false)]
  have hcf : st.cf = su.cf := cf_of_val fun k h10 => by
    have hr : (List.range 10).contains k = true := by simpa using h10
    unfold St.val
    rw [hj k, hk k, if_pos hr]
    cases hf : f k with
    | true =>
      have : ((List.range 10).filter f).contains k = true := by simp [hf, h10]
      rw [if_pos this]
    | false =>
      have : ((List.range 10).filter f).contains k = false := by simp; intro _; exact hf
      rw [if_neg (by rw [this]; decide)]
      simp only
      rw [mixN_nat hc dfl_ok]
      unfold mixN
      rw [if_neg (by simp [hf])]
  rw [e1, hcf] at hs
  have hu' : parseC (fewU c (Cf.dflt false) f 10) = _ := hu
  by_cases hok : su.cf.ok
  · rw [if_pos hok] at hs hu'
    exact ⟨_, _, hs, hu', Or.inl rfl⟩
  · rw [if_neg hok] at hs hu'
    exact ⟨_, _, hs, hu', Or.inr rfl⟩
theorem fewT_len {c : Cf} (hc : c.ok) (f : Nat → Bool) (i : Nat) (hi : i ≤ 10) : (fewT c f i).length ≤ 26 * i := by
  induction i with
  | zero => simp [fewT]
  | succ i ih =>
    have := rowT_len hc (k := i) (by omega)
    have := ih (by omega)
    rw [fewT_succ, List.length_append]
    split <;> simp only [List.length_append, List.length_cons, List.length_nil] <;> omega
theorem fewU_len {c d : Cf} (hc : c.ok) (hd : d.ok) (f : Nat → Bool) (i : Nat) (hi : i ≤ 10) : (fewU c d f i).length ≤ 26 * i := by
  induction i with
  | zero => simp [fewU]
  | succ i ih =>
    have := mixR_len hc hd f (k := i) (by omega)
    have := ih (by omega)
    rw [fewU_succ, List.length_append, List.length_append]
    simp only [List.length_cons, List.length_nil]
    omega
end Go.Proofs.YtjhkgoppopfoaaaDoor
