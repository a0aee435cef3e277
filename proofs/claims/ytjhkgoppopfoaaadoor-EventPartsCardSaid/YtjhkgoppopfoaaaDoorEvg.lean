/-
  Events as lines, and lines as events: plain.
-/
import Derived.Test.YtjhkgoppopfoaaaDoorEvq
import Derived.Test.YtjhkgoppopfoaaaDoorEvt
namespace Go.Proofs.YtjhkgoppopfoaaaDoor
open Go.RowKit Go.Lib
set_option linter.unusedVariables false
set_option linter.unusedSimpArgs false

theorem numZ_some {w : Bs} {v : Int} (h : numZ w = some v) : itoa v = w := by
  unfold numZ at h
  split at h
  · split at h
    · rename_i hc
      obtain rfl := Option.some.inj h
      exact hc.2
    · cases h
  · cases h
theorem itoa_pos {v : Int} (h : 0 ≤ v) : itoa v = decDigits v.toNat := by unfold itoa; rw [if_neg (by omega)]
theorem numZ_itoa {v : Int} (h0 : 0 ≤ v) (h1 : v ≤ 9007199254740991) : numZ (itoa v) = some v := by
  obtain ⟨n, rfl⟩ : ∃ n : Nat, v = (n : Int) := ⟨v.toNat, by omega⟩
  have hl := digits_len (n := n) (by omega)
  have e := itoa_nat n
  unfold numZ
  rw [e, atoiAll_short _ (by omega), atoi_digits]
  simp only [NumEnd.ofOption]
  rw [if_pos ⟨hl, e⟩]
theorem itoa_free {v : Int} (h : 0 ≤ v) (x : UInt8) (hx : x.toNat < 48 ∨ 57 < x.toNat) : x ∉ itoa v := by rw [itoa_pos h]; exact digits_free _ x hx
theorem word_free (k : Nat) : (32 : UInt8) ∉ word k ∧ (10 : UInt8) ∉ word k := by
  unfold word
  split <;> simp
theorem spl_fields (c : UInt8) (g : Fd → Bs) : ∀ (l : List Fd) (a : Bs), c ∉ a → (∀ f ∈ l, c ∉ g f) → spl c (a ++ l.flatMap fun f => c :: g f) = a :: l.map g
  | [], a, ha, _ => by simp [spl_no c a ha]
  | f :: l, a, ha, h => by
    have ih := spl_fields c g l (g f) (h f (by simp)) (fun x hx => h x (by simp [hx]))
    rw [List.flatMap_cons, List.cons_append, spl_app c a _ ha, ih]
    rfl
theorem preL_spl {e : Ev} (h : e.ok) : spl 32 (preL e (fds e.k.toNat)) = word e.k.toNat :: (fds e.k.toNat).map fun f => itoa (e.at f.c) :=
  spl_fields 32 _ _ _ (word_free _).1 (fun f hf => itoa_free (ok_range h f hf).1 32 (by decide))
theorem preL_lf {e : Ev} (h : e.ok) : (10 : UInt8) ∉ preL e (fds e.k.toNat) := by
  unfold preL
  simp only [List.mem_append, List.mem_flatMap, List.mem_cons, not_or, not_exists, not_and]
  exact ⟨(word_free _).2, fun f hf => ⟨by decide, itoa_free (ok_range h f hf).1 10 (by decide)⟩⟩
theorem fill_map (e : Ev) : ∀ (l : List Fd) (x : Ev), (∀ f ∈ l, numZ (itoa (e.at f.c)) = some (e.at f.c)) → fillE l (l.map fun f => itoa (e.at f.c)) x = some (l.foldl (fun x f => setF x f.c (e.at f.c)) x)
  | [], x, _ => rfl
  | f :: l, x, h => by
    simp only [List.map_cons, fillE, h f (by simp), List.foldl_cons]
    exact fill_map e l _ (fun y hy => h y (by simp [hy]))
theorem reads_line {e : Ev} (h : e.ok) : Reads (spl 32 (preL e (fds e.k.toNat))) e := by
  have hn : ∀ f ∈ fds e.k.toNat, numZ (itoa (e.at f.c)) = some (e.at f.c) := fun f hf => by
    obtain ⟨h0, h1⟩ := ok_range h f hf
    exact numZ_itoa h0 h1
  rw [preL_spl h]
  refine ⟨e.k.toNat, ⟨by have := h.1; omega, rfl, by simp⟩, ?_, h⟩
  rw [List.tail_cons, fill_map e _ _ hn]
  clear hn
  obtain ⟨k, sp, nu, n⟩ := e
  obtain ⟨hk, -, hz⟩ := h
  simp only at hk hz ⊢
  have z1 := hz 1 (by decide)
  have z2 := hz 2 (by decide)
  have z3 := hz 3 (by decide)
  clear hz
  obtain rfl | rfl | rfl | rfl | rfl | rfl : k = 1 ∨ k = 2 ∨ k = 3 ∨ k = 4 ∨ k = 5 ∨ k = 6 := by omega
  all_goals (simp [fds, Ev.at] at z1 z2 z3)
  all_goals (simp [fds, setF, Ev.at])
  all_goals (simp [*])
theorem readW_line {e : Ev} (h : e.ok) : readW (spl 32 (preL e (fds e.k.toNat))) = some e := readW_some (reads_line h)
theorem fill_inv : ∀ (l : List Fd) (ws : List Bs) (x e : Ev), ws.length = l.length → fillE l ws x = some e → ∃ vs : List Int, ws = vs.map itoa ∧ vs.length = l.length ∧ e = (l.zip vs).foldl (fun x p => setF x p.1.c p.2) x
  | [], [], x, e, _, h => ⟨[], rfl, rfl, by simpa [fillE] using h.symm⟩
  | f :: l, w :: ws, x, e, hl, h => by
    simp only [fillE] at h
    cases hw : numZ w with
    | none => rw [hw] at h; cases h
    | some v =>
      rw [hw] at h
      obtain ⟨vs, h1, h2, h3⟩ := fill_inv l ws _ e (by simpa using hl) h
      exact ⟨v :: vs, by rw [List.map_cons, numZ_some hw, h1], by simp [h2], by simpa using h3⟩
  | [], _ :: _, _, _, hl, _ => by simp at hl
  | _ :: _, [], _, _, hl, _ => by simp at hl
/-- The pieces put together again. -/
def glue (c : UInt8) : List Bs → Bs
  | [] => []
  | a :: t => a ++ t.flatMap (c :: ·)
theorem glue_spl (c : UInt8) : ∀ l, glue c (spl c l) = l
  | [] => rfl
  | x :: r => by
    have ih := glue_spl c r
    by_cases e : x = c
    · subst e
      rw [spl_eq]
      cases h : spl x r with
      | nil => exact absurd h (spl_ne x r)
      | cons a t =>
        rw [h] at ih
        simp only [glue, List.nil_append, List.flatMap_cons, List.cons_append] at ih ⊢
        rw [ih]
    · obtain ⟨a, t, e1, e2⟩ := spl_cons c x e r
      rw [e1] at ih
      rw [e2]
      simp only [glue, List.cons_append] at ih ⊢
      rw [ih]
theorem len_three {α : Type} : ∀ {l : List α}, l.length = 0 + 1 + 1 + 1 → ∃ a b c, l = [a, b, c]
  | [a, b, c], _ => ⟨a, b, c, rfl⟩
theorem len_two {α : Type} : ∀ {l : List α}, l.length = 0 + 1 + 1 → ∃ a b, l = [a, b]
  | [a, b], _ => ⟨a, b, rfl⟩
theorem reads_inv {l : Bs} {e : Ev} (h : Reads (spl 32 l) e) : e.ok ∧ l = preL e (fds e.k.toNat) := by
  obtain ⟨k, ⟨hk, hh, hl⟩, hf, hok⟩ := h
  refine ⟨hok, ?_⟩
  have hg := glue_spl 32 l
  cases hs : spl 32 l with
  | nil => exact absurd hs (spl_ne 32 l)
  | cons a ws =>
    rw [hs] at hh hl hf hg
    simp only [List.head?_cons, Option.some.injEq] at hh
    subst hh
    simp only [List.length_cons, Nat.add_right_cancel_iff] at hl
    obtain ⟨vs, rfl, hv, rfl⟩ := fill_inv _ _ _ _ hl hf
    rw [← hg]
    clear hs hf hg hok hl
    obtain rfl | rfl | rfl | rfl | rfl | rfl : k = 1 ∨ k = 2 ∨ k = 3 ∨ k = 4 ∨ k = 5 ∨ k = 6 := by omega
    all_goals (simp only [fds, List.length_cons, List.length_nil] at hv)
    · obtain ⟨v1, v2, v3, rfl⟩ := len_three hv
      simp [fds, setF, glue, preL, Ev.at]
    · obtain ⟨v1, v2, v3, rfl⟩ := len_three hv
      simp [fds, setF, glue, preL, Ev.at]
    · obtain ⟨v1, v2, rfl⟩ := len_two hv
      simp [fds, setF, glue, preL, Ev.at]
    · obtain ⟨v1, rfl⟩ := List.length_eq_one_iff.1 hv
      simp [fds, setF, glue, preL, Ev.at]
    · obtain ⟨v1, rfl⟩ := List.length_eq_one_iff.1 hv
      simp [fds, setF, glue, preL, Ev.at]
    · obtain ⟨v1, rfl⟩ := List.length_eq_one_iff.1 hv
      simp [fds, setF, glue, preL, Ev.at]
theorem readW_inv {ws : List Bs} {e : Ev} (h : readW ws = some e) : Reads ws e := by
  unfold readW at h
  split at h
  · rename_i hx
    obtain rfl := Option.some.inj h
    exact hx.choose_spec
  · cases h
/-- What is read of a line is what has this line. -/
theorem readW_iff {l : Bs} {e : Ev} : readW (spl 32 l) = some e ↔ e.ok ∧ lineE e = l ++ [10] := by
  constructor
  · intro h
    obtain ⟨hok, rfl⟩ := reads_inv (readW_inv h)
    exact ⟨hok, rfl⟩
  · rintro ⟨hok, h⟩
    have : preL e (fds e.k.toNat) = l := List.append_cancel_right h
    rw [← this]
    exact readW_line hok
theorem lineE_pre (e : Ev) : lineE e = preL e (fds e.k.toNat) ++ [10] := rfl
/-! ### texts -/
def textE (es : List Ev) : Bs := es.flatMap lineE
theorem textE_cons (e : Ev) (es : List Ev) : textE (e :: es) = lineE e ++ textE es := by simp [textE]
theorem textE_app (a b : List Ev) : textE (a ++ b) = textE a ++ textE b := by simp [textE]
theorem parse_app : ∀ (es : List Ev), (∀ e ∈ es, e.ok) → ∀ (r : Bs) (i : Nat), readsE (spl 10 (textE es ++ r)) i = match readsE (spl 10 r) (i + es.length) with
    | .error n => .error n
    | .ok fs => .ok (es ++ fs)
  | [], _, r, i => by
    simp only [textE, List.flatMap_nil, List.nil_append, List.length_nil, Nat.add_zero]
    split <;> simp_all
  | e :: es, h, r, i => by
    have he := h e (by simp)
    have hx : textE (e :: es) ++ r = preL e (fds e.k.toNat) ++ 10 :: (textE es ++ r) := by simp [textE, lineE]
    rw [hx, readsE_cut _ _ (preL_lf he), readW_line he]
    simp only
    rw [parse_app es (fun x hx => h x (by simp [hx])) r (i + 1)]
    have : i + 1 + es.length = i + (e :: es).length := by simp; omega
    rw [this]
    cases readsE (spl 10 r) (i + (e :: es).length) <;> rfl
theorem parse_text_ok (es : List Ev) (h : ∀ e ∈ es, e.ok) : parseE (textE es) = .ok es := by
  have := parse_app es h [] 0
  rw [List.append_nil] at this
  unfold parseE
  rw [this]
  simp [spl, readsE]
theorem parse_ok_inv : ∀ (m : Nat) (s : Bs) (i : Nat) (es : List Ev), s.length ≤ m → readsE (spl 10 s) i = .ok es → s = textE es ∧ ∀ e ∈ es, e.ok
  | m, s, i, es, hm, h => by
    by_cases h10 : (10 : UInt8) ∈ s
    · obtain ⟨a, b, rfl, ha, -⟩ := spl_hit 10 s h10
      rw [readsE_cut a b ha] at h
      cases hw : readW (spl 32 a) with
      | none => rw [hw] at h; cases h
      | some e =>
        rw [hw] at h
        simp only at h
        cases hb : readsE (spl 10 b) (i + 1) with
        | error n => rw [hb] at h; cases h
        | ok fs =>
          rw [hb] at h
          simp only [Except.ok.injEq] at h
          subst h
          cases m with
          | zero => simp at hm
          | succ m =>
            obtain ⟨h1, h2⟩ := parse_ok_inv m b (i + 1) fs (by simp at hm; omega) hb
            obtain ⟨hok, hl⟩ := readW_iff.1 hw
            refine ⟨?_, fun x hx => ?_⟩
            · rw [textE_cons, hl, ← h1]; simp
            · rcases List.mem_cons.1 hx with rfl | hx
              · exact hok
              · exact h2 x hx
    · rw [readsE_none s h10] at h
      split at h
      · rename_i hs
        cases h
        exact ⟨hs, by simp⟩
      · cases h
theorem parse_err_inv : ∀ (m : Nat) (s : Bs) (i n : Nat), s.length ≤ m → readsE (spl 10 s) i = .error n → i + 1 ≤ n ∧ n ≤ i + 1 + s.count 10
  | m, s, i, n, hm, h => by
    by_cases h10 : (10 : UInt8) ∈ s
    · obtain ⟨a, b, rfl, ha, -⟩ := spl_hit 10 s h10
      have hc : (a ++ 10 :: b).count 10 = b.count 10 + 1 := by rw [List.count_append, List.count_eq_zero.2 ha, List.count_cons_self]; omega
      rw [hc]
      rw [readsE_cut a b ha] at h
      cases hw : readW (spl 32 a) with
      | none =>
        rw [hw] at h
        cases h
        omega
      | some e =>
        rw [hw] at h
        simp only at h
        cases hb : readsE (spl 10 b) (i + 1) with
        | error k =>
          rw [hb] at h
          cases h
          cases m with
          | zero => simp at hm
          | succ m =>
            have := parse_err_inv m b (i + 1) n (by simp at hm; omega) hb
            omega
        | ok fs => rw [hb] at h; cases h
    · rw [readsE_none s h10] at h
      split at h
      · cases h
      · cases h
        omega
theorem lineE_count {e : Ev} (h : e.ok) : (lineE e).count 10 = 1 := by
  rw [lineE_pre, List.count_append, List.count_eq_zero.2 (preL_lf h)]
  simp
theorem textE_count : ∀ (es : List Ev), (∀ e ∈ es, e.ok) → (textE es).count 10 = es.length
  | [], _ => rfl
  | e :: es, h => by
    rw [textE_cons, List.count_append, lineE_count (h e (by simp)), textE_count es (fun x hx => h x (by simp [hx]))]
    simp; omega
/-- A line that is none, put in among others. -/
theorem parse_spoilt (es : List Ev) (h : ∀ e ∈ es, e.ok) (o : Bs) (ho : (10 : UInt8) ∉ o) (hr : readW (spl 32 o) = none) (t : Bs) : parseE (textE es ++ (o ++ 10 :: t)) = .error (es.length + 1) := by
  unfold parseE
  rw [parse_app es h, readsE_cut o t ho, hr]
  simp
/-! ### lists as functions -/
def evs (z : Nat → Nat → Int) (n : Nat) : List Ev := (List.range n).map (evAt z)
theorem evs_len (z : Nat → Nat → Int) (n : Nat) : (evs z n).length = n := by simp [evs]
theorem evs_succ (z : Nat → Nat → Int) (n : Nat) : evs z (n + 1) = evs z n ++ [evAt z n] := by simp [evs, List.range_succ]
theorem linesT_evs (z : Nat → Nat → Int) (n : Nat) : linesT z n = textE (evs z n) := by simp [linesT, textE, evs, List.flatMap_map]
theorem okN_evs {z : Nat → Nat → Int} {n : Nat} : OkN z n ↔ ∀ e ∈ evs z n, e.ok := by
  simp [OkN, evs]
theorem evs_at {z y : Nat → Nat → Int} {n : Nat} (h : evs z n = evs y n) (i : Nat) (hi : i < n) : evAt z i = evAt y i := by
  have := congrArg (fun l => l[i]?) h
  simpa [evs, hi] using this
theorem evs_n {z y : Nat → Nat → Int} {n m : Nat} (h : evs z n = evs y m) : n = m := by
  have := congrArg List.length h
  simpa [evs_len] using this
end Go.Proofs.YtjhkgoppopfoaaaDoor
