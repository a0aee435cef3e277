/-
  A setting as plain data: its ranges, its text, and how a text is read. No program here.
-/
import Derived.Test.YtjhkgoppopfoaaaDoorWord
namespace Go.Proofs.YtjhkgoppopfoaaaDoor
set_option linter.unusedVariables false
set_option linter.unusedSimpArgs false
open Go.Lib

structure Cf where
  sv : Bool
  dg : Int
  fi : Int
  mo : Int
  rt : Int
  md : Int
  ex : Int
  bu : Int
  ro : Int
  ba : Int
  deriving DecidableEq

def Cf.zero : Cf := ⟨false, 0, 0, 0, 0, 0, 0, 0, 0, 0⟩
def Cf.dflt (sv : Bool) : Cf := ⟨sv, 1200, 12000, 16777216, 333000000, 25000000, 3, 12000, 256, 6⟩
def b2i (b : Bool) : Int := if b then 1 else 0
/-- The numbers in order; the first is the server's. -/
def Cf.num (c : Cf) : Nat → Int
  | 0 => b2i c.sv
  | 1 => c.dg
  | 2 => c.fi
  | 3 => c.mo
  | 4 => c.rt
  | 5 => c.md
  | 6 => c.ex
  | 7 => c.bu
  | 8 => c.ro
  | _ => c.ba
def Cf.lo (c : Cf) : Nat → Int
  | 0 => 0
  | 1 => 1200
  | 2 => 2 * c.dg
  | 3 => 2 * c.dg
  | 4 => 1000000
  | 5 => 0
  | 6 => 0
  | 7 => c.dg
  | 8 => 2
  | _ => 0
def Cf.hi (c : Cf) : Nat → Int
  | 0 => 1
  | 1 => 65527
  | 2 => c.mo
  | 3 => 1099511627776
  | 4 => 60000000000
  | 5 => 16384000000
  | 6 => 20
  | 7 => 1073741824
  | 8 => 256
  | _ => 10
def Cf.ok (c : Cf) : Prop := (1200 ≤ c.dg ∧ c.dg ≤ 65527) ∧ (2 * c.dg ≤ c.fi ∧ c.fi ≤ c.mo) ∧ (2 * c.dg ≤ c.mo ∧ c.mo ≤ 1099511627776) ∧ (1000000 ≤ c.rt ∧ c.rt ≤ 60000000000) ∧ (0 ≤ c.md ∧ c.md ≤ 16384000000) ∧
  (0 ≤ c.ex ∧ c.ex ≤ 20) ∧ (c.dg ≤ c.bu ∧ c.bu ≤ 1073741824) ∧ (2 ≤ c.ro ∧ c.ro ≤ 256) ∧ (0 ≤ c.ba ∧ c.ba ≤ 10)
instance (c : Cf) : Decidable c.ok := by unfold Cf.ok; exact inferInstance
theorem Cf.ok_iff (c : Cf) : c.ok ↔ ∀ k, k < 10 → c.lo k ≤ c.num k ∧ c.num k ≤ c.hi k := by
  constructor
  · rintro ⟨h1, h2, h3, h4, h5, h6, h7, h8, h9⟩ k hk
    obtain rfl | rfl | rfl | rfl | rfl | rfl | rfl | rfl | rfl | rfl : k = 0 ∨ k = 1 ∨ k = 2 ∨ k = 3 ∨ k = 4 ∨ k = 5 ∨ k = 6 ∨ k = 7 ∨ k = 8 ∨ k = 9 := by omega
    · simp only [Cf.lo, Cf.hi, Cf.num, b2i]; split <;> omega
    all_goals assumption
  · intro h
    exact ⟨h 1 (by omega), h 2 (by omega), h 3 (by omega), h 4 (by omega), h 5 (by omega), h 6 (by omega), h 7 (by omega), h 8 (by omega), h 9 (by omega)⟩
theorem Cf.num_range {c : Cf} (h : c.ok) (k : Nat) : 0 ≤ c.num k ∧ c.num k ≤ 1099511627776 := by
  obtain ⟨h1, h2, h3, h4, h5, h6, h7, h8, h9⟩ := h
  unfold Cf.num b2i
  split <;> first | omega | (split <;> omega)

def nm : Nat → Bs
  | 0 => [115, 101, 114, 118, 101, 114]
  | 1 => [100, 97, 116, 97, 103, 114, 97, 109]
  | 2 => [102, 105, 114, 115, 116]
  | 3 => [109, 111, 115, 116]
  | 4 => [114, 116, 116]
  | 5 => [100, 101, 108, 97, 121]
  | 6 => [101, 120, 112]
  | 7 => [98, 117, 114, 115, 116]
  | 8 => [114, 111, 111, 109]
  | _ => [98, 97, 99, 107, 115]
/-- A name's place. -/
def place (w : Bs) : Option Nat := (List.range 10).find? (fun k => nm k == w)
theorem place_nm {k : Nat} (h : k < 10) : place (nm k) = some k := by
  obtain rfl | rfl | rfl | rfl | rfl | rfl | rfl | rfl | rfl | rfl : k = 0 ∨ k = 1 ∨ k = 2 ∨ k = 3 ∨ k = 4 ∨ k = 5 ∨ k = 6 ∨ k = 7 ∨ k = 8 ∨ k = 9 := by omega
  all_goals decide
theorem place_some {w : Bs} {k : Nat} (h : place w = some k) : k < 10 ∧ nm k = w := by
  unfold place at h
  have h1 := List.mem_of_find?_eq_some h
  have h2 := List.find?_some h
  exact ⟨by simpa using h1, by simpa using h2⟩
theorem place_none {w : Bs} (h : place w = none) (k : Nat) (hk : k < 10) : nm k ≠ w := by
  unfold place at h
  have := List.find?_eq_none.1 h k (by simpa using hk)
  simpa using this
theorem nm_inj {j k : Nat} (hj : j < 10) (hk : k < 10) (h : nm j = nm k) : j = k := by
  have a := place_nm hj
  rw [h, place_nm hk] at a
  exact (Option.some.inj a).symm

/-- What has been read: each place's number. -/
abbrev St := Nat → Option Nat
def St.none : St := fun _ => Option.none
def St.put (st : St) (k n : Nat) : St := fun j => if j = k then some n else st j
def rdLine (l : Bs) (st : St) : Option St :=
  match wds l with
  | [] => some st
  | w :: ws =>
    if w.head? = some 35 then some st else
    match place w with
    | Option.none => Option.none
    | some k =>
      if st k = Option.none ∧ ws.length = 1 then
        match numP (ws.headD []) with
        | Option.none => Option.none
        | some n => if k = 0 ∧ 1 < n then Option.none else some (st.put k n)
      else Option.none
/-- The lines from the i-th on; an error is the line's number. -/
def rd : List Bs → Nat → St → Except Nat St
  | [], _, st => .ok st
  | l :: t, i, st => match rdLine l st with
    | Option.none => .error (i + 1)
    | some st' => rd t (i + 1) st'
def St.val (st : St) (k : Nat) : Int := match st k with | some n => (n : Int) | Option.none => (Cf.dflt false).num k
def St.cf (st : St) : Cf := ⟨st.val 0 == 1, st.val 1, st.val 2, st.val 3, st.val 4, st.val 5, st.val 6, st.val 7, st.val 8, st.val 9⟩
/-- How a text is read: the setting, the line, the error's number. -/
def parseC (s : Bs) : Cf × Nat × Int :=
  if 65536 < s.length then (Cf.zero, 0, 5) else
  match rd (spl 10 s) 0 St.none with
  | .error i => (Cf.zero, i, 4)
  | .ok st => if st.cf.ok then (st.cf, 0, 0) else (Cf.zero, 0, 9)
def rowT (c : Cf) (k : Nat) : Bs := nm k ++ 32 :: itoa (c.num k)
/-- A setting's text. -/
def textC (c : Cf) : Bs := (List.range 10).flatMap fun k => rowT c k ++ [10]

theorem rdLine_blank {l : Bs} (st : St) (h : wds l = []) : rdLine l st = some st := by unfold rdLine; rw [h]
theorem rdLine_note {l w : Bs} {ws : List Bs} (st : St) (h : wds l = w :: ws) (hw : w.head? = some 35) : rdLine l st = some st := by unfold rdLine; rw [h]; simp [hw]
theorem rdLine_put {l : Bs} (st : St) {k n : Nat} (hk : k < 10) (h : wds l = [nm k, decDigits n]) (hn : (decDigits n).length ≤ 16) (hst : st k = Option.none) (h0 : k = 0 → n ≤ 1) : rdLine l st = some (st.put k n) := by
  unfold rdLine
  rw [h]
  have hh : (nm k).head? ≠ some 35 := by
    obtain rfl | rfl | rfl | rfl | rfl | rfl | rfl | rfl | rfl | rfl : k = 0 ∨ k = 1 ∨ k = 2 ∨ k = 3 ∨ k = 4 ∨ k = 5 ∨ k = 6 ∨ k = 7 ∨ k = 8 ∨ k = 9 := by omega
    all_goals decide
  simp only [if_neg hh, place_nm hk, hst, List.length_singleton, and_self, if_true, List.headD_cons, numP_digits hn]
  rw [if_neg (by rintro ⟨a, b⟩; have := h0 a; omega)]
/-- What a line does that is read. -/
theorem rdLine_some {l : Bs} {st st' : St} (h : rdLine l st = some st') : st' = st ∨ ∃ k n, k < 10 ∧ n < 10000000000000000 ∧ (k = 0 → n ≤ 1) ∧ st k = Option.none ∧ st' = st.put k n := by
  unfold rdLine at h
  split at h
  · exact Or.inl (Option.some.inj h).symm
  · split at h
    · exact Or.inl (Option.some.inj h).symm
    · split at h
      · cases h
      · rename_i k hk
        split at h
        · rename_i hc
          split at h
          · cases h
          · rename_i n hn
            split at h
            · cases h
            · rename_i h0
              exact Or.inr ⟨k, n, (place_some hk).1, (numP_some hn).2.2, fun e => by omega, hc.1, (Option.some.inj h).symm⟩
        · cases h
theorem rd_app : ∀ (a b : List Bs) (i : Nat) (st st' : St), rd a i st = .ok st' → rd (a ++ b) i st = rd b (i + a.length) st'
  | [], b, i, st, st', h => by
    simp only [rd] at h
    cases h
    rfl
  | l :: a, b, i, st, st', h => by
    simp only [rd, List.cons_append] at h ⊢
    split at h
    · cases h
    · rename_i s1 hs
      have := rd_app a b (i + 1) s1 st' h
      simp only [this, List.length_cons]
      congr 1
      omega
theorem rd_err : ∀ (a : List Bs) (i : Nat) (st : St) (n : Nat), rd a i st = .error n → i + 1 ≤ n ∧ n ≤ i + a.length
  | [], i, st, n, h => by simp only [rd] at h; cases h
  | l :: a, i, st, n, h => by
    simp only [rd] at h
    split at h
    · cases h
      simp only [List.length_cons]
      omega
    · have := rd_err a (i + 1) _ n h
      simp only [List.length_cons]
      omega
/-- What is true of the empty state, and kept by each line that is read, is true at the end. -/
theorem rd_ind (Q : St → Prop) (step : ∀ st k n, Q st → k < 10 → n < 10000000000000000 → (k = 0 → n ≤ 1) → Q (st.put k n)) : ∀ (a : List Bs) (i : Nat) (st st' : St), Q st → rd a i st = .ok st' → Q st'
  | [], i, st, st', hq, h => by simp only [rd] at h; cases h; exact hq
  | l :: a, i, st, st', hq, h => by
    simp only [rd] at h
    split at h
    · cases h
    · rename_i s1 hs
      rcases rdLine_some hs with rfl | ⟨k, n, hk, hn, h0, _, rfl⟩
      · exact rd_ind Q step a (i + 1) _ st' hq h
      · exact rd_ind Q step a (i + 1) _ st' (step st k n hq hk hn h0) h

/-! ### the text of a setting is read as it was -/
theorem nm_free {k : Nat} (h : k < 10) : (10 : UInt8) ∉ nm k ∧ (32 : UInt8) ∉ nm k ∧ nm k ≠ [] ∧ (nm k).length ≤ 8 := by
  obtain rfl | rfl | rfl | rfl | rfl | rfl | rfl | rfl | rfl | rfl : k = 0 ∨ k = 1 ∨ k = 2 ∨ k = 3 ∨ k = 4 ∨ k = 5 ∨ k = 6 ∨ k = 7 ∨ k = 8 ∨ k = 9 := by omega
  all_goals decide
theorem digits_free (n : Nat) (x : UInt8) (h : x.toNat < 48 ∨ 57 < x.toNat) : x ∉ decDigits n := fun hm => by have := digits_digit n x hm; omega
theorem itoa_nat (n : Nat) : itoa (n : Int) = decDigits n := by unfold itoa; rw [if_neg (by omega)]; rfl
theorem wds_two {a b : Bs} (ha : (32 : UInt8) ∉ a) (hb : (32 : UInt8) ∉ b) (ha' : a ≠ []) (hb' : b ≠ []) : wds (a ++ 32 :: b) = [a, b] := by
  rw [wds_app _ _ ha, wds_no _ hb, if_neg ha', if_neg hb']; rfl
theorem Cf.num_nat {c : Cf} (h : c.ok) (k : Nat) : ∃ n : Nat, c.num k = (n : Int) ∧ n ≤ 1099511627776 ∧ (decDigits n).length ≤ 16 ∧ (k = 0 → n ≤ 1) := by
  have hr := Cf.num_range h k
  refine ⟨(c.num k).toNat, by omega, by omega, digits_len (by omega), ?_⟩
  rintro rfl
  have : c.num 0 ≤ 1 := by simp only [Cf.num, b2i]; split <;> omega
  omega
theorem rowT_wds {c : Cf} (h : c.ok) {k : Nat} (hk : k < 10) {n : Nat} (hn : c.num k = (n : Int)) : wds (rowT c k) = [nm k, decDigits n] := by
  obtain ⟨_, h2, h3, _⟩ := nm_free hk
  unfold rowT
  rw [hn, itoa_nat]
  exact wds_two h2 (digits_free n 32 (by decide)) h3 (digits_ne n)
theorem rowT_free {c : Cf} (h : c.ok) {k : Nat} (hk : k < 10) : (10 : UInt8) ∉ rowT c k := by
  obtain ⟨n, hn, _, _, _⟩ := Cf.num_nat h k
  unfold rowT
  rw [hn, itoa_nat]
  simp only [List.mem_append, List.mem_cons, not_or]
  exact ⟨(nm_free hk).1, by decide, digits_free n 10 (by decide)⟩
theorem rowT_len {c : Cf} (h : c.ok) {k : Nat} (hk : k < 10) : (rowT c k).length ≤ 25 := by
  obtain ⟨n, hn, _, hl, _⟩ := Cf.num_nat h k
  unfold rowT
  rw [hn, itoa_nat]
  have := (nm_free hk).2.2.2
  simp only [List.length_append, List.length_cons]
  omega
/-- The settings' numbers at those places that f names. -/
def stOf (c : Cf) (f : Nat → Bool) : St := fun k => if k < 10 ∧ f k = true then some (c.num k).toNat else Option.none
theorem stOf_put {c : Cf} {f g : Nat → Bool} {k : Nat} (hk : k < 10) {n : Nat} (hn : c.num k = (n : Int)) (hg : ∀ j, j < 10 → g j = (f j || j == k)) : (stOf c f).put k n = stOf c g := by
  funext j
  unfold St.put stOf
  by_cases e : j = k
  · subst e
    rw [if_pos rfl, if_pos ⟨hk, by rw [hg j hk]; simp⟩, hn]
    rfl
  · rw [if_neg e]
    by_cases hj : j < 10
    · have : g j = f j := by rw [hg j hj]; simp [e]
      simp only [this]
    · rw [if_neg (by omega), if_neg (by omega)]
theorem stOf_none (c : Cf) : stOf c (fun _ => false) = St.none := by funext k; simp [stOf, St.none]
theorem stOf_cf {c : Cf} (h : c.ok) (f : Nat → Bool) (hf : ∀ k, k < 10 → f k = false → c.num k = (Cf.dflt false).num k) : (stOf c f).cf = c := by
  have key : ∀ k, k < 10 → (stOf c f).val k = c.num k := by
    intro k hk
    have hr := Cf.num_range h k
    unfold St.val stOf
    by_cases e : f k = true
    · rw [if_pos ⟨hk, e⟩]; simp only; omega
    · rw [if_neg (fun x => e x.2)]
      exact (hf k hk (by simpa using e)).symm
  unfold St.cf
  simp only [key, Nat.reduceLT]
  obtain ⟨sv, dg, fi, mo, rt, md, ex, bu, ro, ba⟩ := c
  simp only [Cf.num, Cf.mk.injEq, and_true]
  cases sv <;> decide
/-- A row that is read behind some others. -/
theorem rd_row {c : Cf} (h : c.ok) {f g : Nat → Bool} {k : Nat} (hk : k < 10) (hf : f k = false) (hg : ∀ j, j < 10 → g j = (f j || j == k)) {l : Bs} (hl : wds l = wds (rowT c k)) : rdLine l (stOf c f) = some (stOf c g) := by
  obtain ⟨n, hn, _, hlen, h0⟩ := Cf.num_nat h k
  rw [rdLine_put (stOf c f) hk (hl.trans (rowT_wds h hk hn)) hlen (by unfold stOf; rw [if_neg (by simp [hf])]) h0, stOf_put hk hn hg]
theorem spl_flat (c : UInt8) (f : Nat → Bs) (rest : Bs) : ∀ (l : List Nat), (∀ k ∈ l, c ∉ f k) → spl c ((l.flatMap fun k => f k ++ [c]) ++ rest) = l.map f ++ spl c rest
  | [], _ => by simp
  | k :: l, h => by
    have ih := spl_flat c f rest l (fun j hj => h j (by simp [hj]))
    simp only [List.flatMap_cons, List.map_cons, List.append_assoc, List.cons_append, List.nil_append]
    rw [spl_app c _ _ (h k (by simp))]
    rw [ih]
theorem textC_len {c : Cf} (h : c.ok) : (textC c).length ≤ 260 := by
  have : ∀ (l : List Nat), (∀ k ∈ l, k < 10) → (l.flatMap fun k => rowT c k ++ [10]).length ≤ 26 * l.length := by
    intro l
    induction l with
    | nil => intro _; simp
    | cons k l ih =>
      intro hl
      have h1 := rowT_len h (hl k (by simp))
      have h2 := ih (fun j hj => hl j (by simp [hj]))
      simp only [List.flatMap_cons, List.length_append, List.length_cons, List.length_nil]
      omega
  have := this (List.range 10) (fun k hk => by simpa using hk)
  simpa [textC] using this
theorem textC_spl {c : Cf} (h : c.ok) : spl 10 (textC c) = (List.range 10).map (rowT c) ++ [[]] := by
  have := spl_flat 10 (rowT c) [] (List.range 10) (fun k hk => rowT_free h (by simpa using hk))
  rw [List.append_nil] at this
  simpa [textC, spl] using this
/-- Rows of a setting one behind the other, each once: what is read. -/
theorem rd_rows {c : Cf} (h : c.ok) : ∀ (l : List Nat) (i : Nat) (f : Nat → Bool), (∀ k ∈ l, k < 10 ∧ f k = false) → l.Nodup → ∃ g, rd (l.map (rowT c)) i (stOf c f) = .ok (stOf c g) ∧ ∀ j, j < 10 → g j = (f j || l.contains j)
  | [], i, f, _, _ => ⟨f, rfl, by simp⟩
  | k :: l, i, f, hl, hn => by
    have hk := hl k (by simp)
    have hn' := List.nodup_cons.1 hn
    obtain ⟨g, hg, hgj⟩ := rd_rows h l (i + 1) (fun j => f j || j == k) (fun j hj => by
      have := hl j (by simp [hj])
      refine ⟨this.1, ?_⟩
      have : j ≠ k := fun e => hn'.1 (e ▸ hj)
      simp [*]) hn'.2
    refine ⟨g, ?_, fun j hj => ?_⟩
    · simp only [List.map_cons, rd]
      rw [rd_row h hk.1 hk.2 (fun j _ => rfl) rfl]
      exact hg
    · rw [hgj j hj]
      have e1 : (k :: l).contains j = ((j == k) || l.contains j) := List.contains_cons
      rw [e1, Bool.or_assoc]
theorem parse_text {c : Cf} (h : c.ok) : parseC (textC c) = (c, 0, 0) := by
  unfold parseC
  have hl := textC_len h
  rw [if_neg (by omega), textC_spl h]
  obtain ⟨g, hg, hgj⟩ := rd_rows h (List.range 10) 0 (fun _ => false) (fun k hk => ⟨by simpa using hk, rfl⟩) List.nodup_range
  rw [stOf_none] at hg
  rw [rd_app _ _ _ _ _ hg]
  have he : rd [[]] (0 + ((List.range 10).map (rowT c)).length) (stOf c g) = .ok (stOf c g) := by
    simp only [rd]
    rw [rdLine_blank _ (by decide)]
  rw [he]
  have hcf : (stOf c g).cf = c := stOf_cf h g (fun k hk e => by rw [hgj k hk] at e; simp at e; omega)
  simp only [hcf, if_pos h]
end Go.Proofs.YtjhkgoppopfoaaaDoor
