/-
  The contract of Parse: how a text is read.
-/
import Derived.Test.YtjhkgoppopfoaaaDoorIdx
import Derived.Maps.OwnOps
import Derived.Maps.Views
import Derived.Laws.ResultCell
import Derived.WalkMore
namespace Go.Proofs.YtjhkgoppopfoaaaDoor
open Go.RowKit Go.Lib Go.Maps Go.WideMaps
set_option linter.unusedVariables false
set_option linter.unusedSimpArgs false
theorem law9 : Keyed Tryd.prog 9 := string_keyed Tryd.underlying9
theorem zero3 (w : World) : (zeroValue 3).run Tryd.prog w = .ok (.int .i64 0) w := by kernel_rfl
/-- What the fields hold behind what has been read. -/
def St.fc (st : St) : Cf := ⟨false, st.val 1, st.val 2, st.val 3, st.val 4, st.val 5, st.val 6, st.val 7, st.val 8, st.val 9⟩
def kLit (l : Bs) : Lit := .string l
/-- The map of names had: each place's name has 1 if it has been read, else 0. -/
def HadAt (w : World) (m cnt : Nat) (st : St) : Prop := ∃ (D : DataW Unit) (n : Nat), n ≤ cnt ∧ w.ownsMap Tryd.prog 9 (plainElem Tryd.prog 3) m n D ∧ IsMap D ∧
  ∀ j, j < 10 → D.atKey (kLit (nm j)) (.lit (.int .i64 0)) = .lit (.int .i64 (if st j = Option.none then 0 else 1))
/-- What stays through Parse's loop. -/
structure PaAt (w wr : World) (r x R B m L cnt : Nat) (ls : List ByteArray) (st : St) : Prop where
  res : wr.heap[r]? = some (.cells Cf.zero.cells 24 (0, 0))
  fld : IsFld wr x st.fc (st.val 0)
  rows : RowsAt wr R B
  had : HadAt wr m cnt st
  lin : wr.heap[L]? = some (.cells (ls.map Value.string).toArray 9 (0, 0))
  gd : Gd wr
  bel : Below w.heap.size w wr
  hm0 : w.heap.size ≤ m
  hx0 : w.heap.size ≤ x
/-- The same without the map of names. -/
structure PbAt (w wr : World) (r x R B m L : Nat) (ls : List ByteArray) (st : St) : Prop where
  res : wr.heap[r]? = some (.cells Cf.zero.cells 24 (0, 0))
  fld : IsFld wr x st.fc (st.val 0)
  rows : RowsAt wr R B
  lin : wr.heap[L]? = some (.cells (ls.map Value.string).toArray 9 (0, 0))
  gd : Gd wr
  bel : Below w.heap.size w wr
  hm0 : w.heap.size ≤ m
  hx0 : w.heap.size ≤ x
theorem ownsMap_keep {H : Type} {w w' : World} {P : Program} {k : TypeId} {Rd : Value → Option (DataW H × List MemPlace)} {b n : Nat} {D : DataW H} (h : w.ownsMap P k Rd b n D) (hb : Below w.heap.size w w') : w'.ownsMap P k Rd b n D := by
  have hlt := h.lt
  unfold World.ownsMap at h ⊢
  rw [hb.block b hlt]
  exact h
theorem HadAt.keep {w w' : World} {m cnt : Nat} {st : St} (h : HadAt w m cnt st) (hb : Below w.heap.size w w') : HadAt w' m cnt st := by
  obtain ⟨D, n, a, b, c, d⟩ := h
  exact ⟨D, n, a, ownsMap_keep b hb, c, d⟩
theorem PaAt.keep {w wr w' : World} {r x R B m L cnt : Nat} {ls : List ByteArray} {st : St} (h : PaAt w wr r x R B m L cnt ls st) (hb : Below wr.heap.size wr w') : PaAt w w' r x R B m L cnt ls st :=
  ⟨keep_heap hb h.res, h.fld.keep hb, h.rows.keep hb, h.had.keep hb, keep_heap hb h.lin, h.gd.keep hb, below_after h.bel hb, h.hm0, h.hx0⟩
def PaEnd (l : Bs) (w : World) (e : Ending) (w' : World) : Prop := e = .returned (.tuple #[(parseC l).1.val, .int .i64 ((parseC l).2.1 : Nat), .int .i64 (parseC l).2.2]) ∧ Below w.heap.size w w'
def PaRel (w : World) (r x R B m L : Nat) (ls : List ByteArray) (i : Value) (wr : World) : Prop := ∃ (k : Nat) (st : St), i = .int .i64 (k : Int) ∧ k ≤ ls.length ∧ rd ((ls.map (·.data.toList)).take k) 0 St.none = .ok st ∧ PaAt w wr r x R B m L k ls st
theorem St.fc_none : St.none.fc = Cf.dflt false := rfl
theorem had_none (w : World) : HadAt (w.alloc (.map #[] 0)) w.heap.size 0 St.none := ⟨.map [], 0, Nat.le_refl _, World.ownsMap_made _ _ _ _, isMap_empty, fun j hj => rfl⟩
set_option maxRecDepth 100000 in
set_option maxHeartbeats 4000000 in
theorem parse_long (s : ByteArray) (w : World) (hs : 65536 < s.size) : Calls Tryd.prog 22 #[.string s] w (PaEnd s.data.toList w) := by
  have hp : parseC s.data.toList = (Cf.zero, 0, 5) := by unfold parseC; rw [if_pos (by rw [← Lib.size_eq]; exact hs)]
  unfold PaEnd
  rw [hp]
  clear hp
  go_enter Tryd.func22, Tryd.ntmps22
  go_wp2_with fail
  go_step3
  go_wp2_with fail
  rw [Exit.noGoto_ret]
  refine bodyPost_ret (v := .tuple #[Cf.zero.val, .int .i64 0, .int .i64 5]) (by simp [results, Tryd.results22, go_sem, Cf.val, Cf.cells, Cf.zero]) rfl ⟨rfl, ?_⟩
  exact (Below.refl _ _).alloc (Nat.le_refl _) _
theorem rd_snoc {a : List Bs} {l : Bs} {st : St} (h : rd a 0 St.none = .ok st) : rd (a ++ [l]) 0 St.none = match rdLine l st with | Option.none => .error (a.length + 1) | some st' => .ok st' := by
  rw [rd_app a [l] 0 St.none st h]
  simp only [rd, Nat.zero_add]
  cases rdLine l st <;> rfl
theorem rd_app_err : ∀ (a b : List Bs) (i : Nat) (st : St) (n : Nat), rd a i st = .error n → rd (a ++ b) i st = .error n
  | [], b, i, st, n, h => by simp only [rd] at h; cases h
  | l :: a, b, i, st, n, h => by
    simp only [rd, List.cons_append] at h ⊢
    split at h
    · exact h
    · exact rd_app_err a b _ _ n h
theorem parse_err {t : Bs} {k : Nat} {l : Bs} {st : St} (hs : t.length ≤ 65536) (h : rd ((spl 10 t).take k) 0 St.none = .ok st) (hl : (spl 10 t)[k]? = some l) (hn : rdLine l st = Option.none) : parseC t = (Cf.zero, k + 1, 4) := by
  have hk : k < (spl 10 t).length := (List.getElem?_eq_some_iff.1 hl).1
  have he : rd (spl 10 t) 0 St.none = .error (k + 1) := by
    have h1 := rd_snoc (l := l) h
    rw [hn] at h1
    have h2 := rd_app_err _ ((spl 10 t).drop (k + 1)) 0 St.none _ h1
    have e : (spl 10 t).take k ++ [l] ++ (spl 10 t).drop (k + 1) = spl 10 t := by
      have : (spl 10 t).take k ++ [l] = (spl 10 t).take (k + 1) := by
        rw [List.take_succ_eq_append_getElem hk]; rw [(List.getElem?_eq_some_iff.1 hl).2]
      rw [this, List.take_append_drop]
    rw [e] at h2
    rw [h2, List.length_take, Nat.min_eq_left (by omega)]
  unfold parseC
  rw [if_neg (by omega), he]
theorem parse_done {t : Bs} {st : St} (hs : t.length ≤ 65536) (h : rd (spl 10 t) 0 St.none = .ok st) : parseC t = if st.cf.ok then (st.cf, 0, 0) else (Cf.zero, 0, 9) := by
  unfold parseC
  rw [if_neg (by omega), h]
theorem rd_next {a : List Bs} {k : Nat} {l : Bs} {st st' : St} (h : rd (a.take k) 0 St.none = .ok st) (hl : a[k]? = some l) (hn : rdLine l st = some st') : rd (a.take (k + 1)) 0 St.none = .ok st' := by
  have hk : k < a.length := (List.getElem?_eq_some_iff.1 hl).1
  have h1 := rd_snoc (l := l) h
  rw [hn] at h1
  rw [List.take_succ_eq_append_getElem hk, (List.getElem?_eq_some_iff.1 hl).2]
  exact h1
theorem lines_at {ls : List ByteArray} {k : Nat} {l : ByteArray} (h : ls[k]? = some l) : (ls.map (·.data.toList))[k]? = some l.data.toList := by simp [h]
theorem HadAt.mono {w : World} {m cnt cnt' : Nat} {st : St} (h : HadAt w m cnt st) (hc : cnt ≤ cnt') : HadAt w m cnt' st := by
  obtain ⟨D, n, a, r⟩ := h
  exact ⟨D, n, by omega, r⟩
theorem PaAt.mono {w wr : World} {r x R B m L cnt cnt' : Nat} {ls : List ByteArray} {st : St} (h : PaAt w wr r x R B m L cnt ls st) (hc : cnt ≤ cnt') : PaAt w wr r x R B m L cnt' ls st := { h with had := h.had.mono hc }
theorem wds_ne {l w : Bs} (h : w ∈ wds l) : w ≠ [] := by
  unfold wds at h
  have := (List.mem_filter.1 h).2
  intro e; subst e; simp at this
theorem head_is {s : ByteArray} (h : 0 < s.size) (h35 : (((s[0]'h).toNat : Int) == 35) = true) : s.data.toList.head? = some 35 := by
  have e : s.data.toList.head? = some (s[0]'h) := by
    rw [List.head?_eq_getElem?, Array.getElem?_toList]
    exact Array.getElem?_eq_getElem h
  rw [e]
  have : (s[0]'h).toNat = 35 := by
    have := beq_iff_eq.1 h35
    omega
  congr 1
  exact UInt8.toNat_inj.1 this
theorem cell_in {w : World} {b i : Nat} {cs : Array Value} {t : TypeId} {f : Nat × Nat} {v : Value} (h : w.heap[b]? = some (.cells cs t f)) (hi : cs[i]? = some v) : w.cell? ⟨b, i, none⟩ = some v := by simp only [World.cell?, h]; exact hi
theorem setCell_id {w : World} {b i : Nat} {cs : Array Value} {t : TypeId} {fz : Nat × Nat} {v : Value} (h : w.heap[b]? = some (.cells cs t fz)) (hi : cs[i]? = some v) : w.setCell ⟨b, i, none⟩ v = w := by
  obtain ⟨hb, he⟩ := Array.getElem?_eq_some_iff.1 h
  obtain ⟨hj, hv⟩ := Array.getElem?_eq_some_iff.1 hi
  have key : (w.setCell ⟨b, i, none⟩ v).heap = w.heap := by
    unfold World.setCell
    apply Array.ext
    · simp
    · intro j h1 h2
      rw [Array.getElem_modify]
      split
      · rename_i e
        subst e
        rw [he]
        simp only [Option.isSome_none, Bool.false_eq_true, if_false]
        congr 1
        apply Array.ext
        · simp
        · intro q q1 q2
          rw [Array.getElem_setIfInBounds]
          split
          · rename_i e2; subst e2; exact hv.symm
          · rfl
      · rfl
  show ({ w with heap := (w.setCell ⟨b, i, none⟩ v).heap } : World) = w
  rw [key]
/-- The facts by which zeros stored in the result's block turn nothing. -/
structure ResOk (w : World) (r : Nat) : Prop where
  c0 : w.cell? ⟨r, 0, none⟩ = some (.bool false)
  f0 : w.frozen? ⟨r, 0, none⟩ = false
  s0 : w.setCell ⟨r, 0, none⟩ (.bool false) = w
  c1 : w.cell? ⟨r, 1, none⟩ = some (.int .i64 0)
  f1 : w.frozen? ⟨r, 1, none⟩ = false
  s1 : w.setCell ⟨r, 1, none⟩ (.int .i64 0) = w
  c2 : w.cell? ⟨r, 2, none⟩ = some (.int .i64 0)
  f2 : w.frozen? ⟨r, 2, none⟩ = false
  s2 : w.setCell ⟨r, 2, none⟩ (.int .i64 0) = w
  c3 : w.cell? ⟨r, 3, none⟩ = some (.int .i64 0)
  f3 : w.frozen? ⟨r, 3, none⟩ = false
  s3 : w.setCell ⟨r, 3, none⟩ (.int .i64 0) = w
  c4 : w.cell? ⟨r, 4, none⟩ = some (.int .i64 0)
  f4 : w.frozen? ⟨r, 4, none⟩ = false
  s4 : w.setCell ⟨r, 4, none⟩ (.int .i64 0) = w
  c5 : w.cell? ⟨r, 5, none⟩ = some (.int .i64 0)
  f5 : w.frozen? ⟨r, 5, none⟩ = false
  s5 : w.setCell ⟨r, 5, none⟩ (.int .i64 0) = w
  c6 : w.cell? ⟨r, 6, none⟩ = some (.int .i64 0)
  f6 : w.frozen? ⟨r, 6, none⟩ = false
  s6 : w.setCell ⟨r, 6, none⟩ (.int .i64 0) = w
  c7 : w.cell? ⟨r, 7, none⟩ = some (.int .i64 0)
  f7 : w.frozen? ⟨r, 7, none⟩ = false
  s7 : w.setCell ⟨r, 7, none⟩ (.int .i64 0) = w
  c8 : w.cell? ⟨r, 8, none⟩ = some (.int .i64 0)
  f8 : w.frozen? ⟨r, 8, none⟩ = false
  s8 : w.setCell ⟨r, 8, none⟩ (.int .i64 0) = w
  c9 : w.cell? ⟨r, 9, none⟩ = some (.int .i64 0)
  f9 : w.frozen? ⟨r, 9, none⟩ = false
  s9 : w.setCell ⟨r, 9, none⟩ (.int .i64 0) = w
theorem frozen_of {w : World} {b i : Nat} {cs : Array Value} {t : TypeId} (h : w.heap[b]? = some (.cells cs t (0, 0))) : w.frozen? ⟨b, i, none⟩ = false := by simp [World.frozen?, h]
theorem resOk {w : World} {r : Nat} (h : w.heap[r]? = some (.cells Cf.zero.cells 24 (0, 0))) : ResOk w r := by
  constructor
  all_goals first | exact frozen_of h | exact cell_in h rfl | exact setCell_id h rfl
theorem grown_cells {H : Type} {w w' : World} {m n k : Nat} {P : Program} {kt : TypeId} {Rd : Value → Option (DataW H × List MemPlace)} {D : DataW H} {cs : Array Value} {t : TypeId} {fz : Nat × Nat} (hm : w.ownsMap P kt Rd m n D) (hg : w.grownBy w' (some m)) (hk : w.heap[k]? = some (.cells cs t fz)) : w'.heap[k]? = some (.cells cs t fz) := by
  have hne : k ≠ m := by
    intro e
    subst e
    obtain ⟨es, st, h, _⟩ := hm
    rw [hk] at h; cases h
  rw [hg.block k (lt_of_heap hk) (by simpa using hne)]
  exact hk
theorem PaAt.mapped {H : Type} {w wr w' : World} {r x R B m L cnt n : Nat} {ls : List ByteArray} {st : St} {D : DataW H} (h : PaAt w wr r x R B m L cnt ls st) (hm : wr.ownsMap Tryd.prog 9 (plainElem Tryd.prog 3) m n D) (hg : wr.grownBy w' (some m)) (g : Gd w) : PbAt w w' r x R B m L ls st := by
  have hb := h.bel.grown hg h.bel.size (fun j hj => by cases hj; exact h.hm0)
  exact ⟨grown_cells hm hg h.res, ⟨grown_cells hm hg h.fld.blk⟩, ⟨grown_cells hm hg h.rows.tab, grown_cells hm hg h.rows.c0, grown_cells hm hg h.rows.c1, grown_cells hm hg h.rows.c2, grown_cells hm hg h.rows.c3, grown_cells hm hg h.rows.c4, grown_cells hm hg h.rows.c5, grown_cells hm hg h.rows.c6, grown_cells hm hg h.rows.c7, grown_cells hm hg h.rows.c8, grown_cells hm hg h.rows.c9, grown_cells hm hg h.rows.c10, grown_cells hm hg h.rows.c11, grown_cells hm hg h.rows.c12, grown_cells hm hg h.rows.c13⟩, grown_cells hm hg h.lin, g.keep hb, hb, h.hm0, h.hx0⟩
theorem spl_le (c : UInt8) : ∀ (l : Bs), ∀ a ∈ spl c l, a.length ≤ l.length
  | [], a, h => by simp [spl] at h; subst h; simp
  | x :: r, a, h => by
    by_cases e : x = c
    · subst e
      rw [spl_eq] at h
      rcases List.mem_cons.1 h with rfl | h
      · simp
      · have := spl_le _ r a h; simp; omega
    · obtain ⟨b, t, e1, e2⟩ := spl_cons c x e r
      have ih := spl_le c r
      rw [e1] at ih
      rw [e2] at h
      rcases List.mem_cons.1 h with rfl | h
      · have := ih b (by simp); simp; omega
      · have := ih a (by simp [h]); simp; omega
theorem wds_le {l w : Bs} (h : w ∈ wds l) : w.length ≤ l.length := spl_le 32 l w (List.mem_filter.1 h).1
theorem pa_err {t : Bs} {k : Nat} {w w' : World} (h : parseC t = (Cf.zero, k + 1, 4)) (hb : Below w.heap.size w w') : PaEnd t w (.returned (.tuple #[Cf.zero.val, .int .i64 ((k : Int) + 1), .int .i64 4])) w' := by
  unfold PaEnd
  rw [h]
  exact ⟨rfl, hb⟩
theorem pa_ok {t : Bs} {c : Cf} {e : Int} {w w' : World} (h : parseC t = (c, 0, e)) (hb : Below w.heap.size w w') : PaEnd t w (.returned (.tuple #[c.val, .int .i64 0, .int .i64 e])) w' := by
  unfold PaEnd
  rw [h]
  exact ⟨rfl, hb⟩
theorem head_not {s : ByteArray} (h : 0 < s.size) (h35 : (((s[0]'h).toNat : Int) == 35) = false) : s.data.toList.head? ≠ some 35 := by
  have e : s.data.toList.head? = some (s[0]'h) := by
    rw [List.head?_eq_getElem?, Array.getElem?_toList]
    exact Array.getElem?_eq_getElem h
  rw [e]
  intro hh
  have := Option.some.inj hh
  rw [this] at h35
  exact absurd h35 (by decide)
theorem rdLine_noname {l w : Bs} {ws : List Bs} {st : St} (h : wds l = w :: ws) (hw : w.head? ≠ some 35) (hp : place w = Option.none) : rdLine l st = Option.none := by
  unfold rdLine; rw [h]; simp only [if_neg hw, hp]
theorem rdLine_twice {l w : Bs} {ws : List Bs} {st : St} {k n : Nat} (h : wds l = w :: ws) (hw : w.head? ≠ some 35) (hp : place w = some k) (hst : st k = some n) : rdLine l st = Option.none := by
  unfold rdLine; rw [h]; simp only [if_neg hw, hp, hst]; simp
theorem rdLine_count {l w : Bs} {ws : List Bs} {st : St} {k : Nat} (h : wds l = w :: ws) (hw : w.head? ≠ some 35) (hp : place w = some k) (hn : ws.length ≠ 1) : rdLine l st = Option.none := by
  unfold rdLine; rw [h]; simp only [if_neg hw, hp]; simp [hn]
theorem rdLine_nonum {l w w1 : Bs} {st : St} {k : Nat} (h : wds l = [w, w1]) (hw : w.head? ≠ some 35) (hp : place w = some k) (hn : numP w1 = Option.none) : rdLine l st = Option.none := by
  unfold rdLine; rw [h]; simp only [if_neg hw, hp]; simp [hn]
theorem rdLine_two {l w w1 : Bs} {st : St} {n : Nat} (h : wds l = [w, w1]) (hw : w.head? ≠ some 35) (hp : place w = some 0) (hn : numP w1 = some n) (h1 : 1 < n) : rdLine l st = Option.none := by
  unfold rdLine; rw [h]; simp only [if_neg hw, hp]; simp [hn, h1]
theorem rdLine_yes {l w w1 : Bs} {st : St} {k n : Nat} (h : wds l = [w, w1]) (hw : w.head? ≠ some 35) (hp : place w = some k) (hst : st k = Option.none) (hn : numP w1 = some n) (h1 : k = 0 → n ≤ 1) : rdLine l st = some (st.put k n) := by
  unfold rdLine; rw [h]; simp only [if_neg hw, hp, hst]
  simp only [List.length_singleton, and_self, if_true, List.headD_cons, hn]
  rw [if_neg (by rintro ⟨a, b⟩; have := h1 a; omega)]
theorem had_now {D : DataW Unit} {st : St} {q : Nat} {w : Bs} {c : Int} (hp : place w = some q) (hat : D.atKey (kLit w) (.lit (.int .i64 0)) = .lit (.int .i64 c)) (hD : ∀ j, j < 10 → D.atKey (kLit (nm j)) (.lit (.int .i64 0)) = .lit (.int .i64 (if st j = Option.none then 0 else 1))) : c = if st q = Option.none then 0 else 1 := by
  obtain ⟨hq, hn⟩ := place_some hp
  have := hD q hq
  rw [hn, hat] at this
  injection this with h1
  injection h1
theorem put_now {D : DataW Unit} {w : Bs} {c d : Int} (hm : IsMap D) (hat : (D.put (kLit w) (.lit (.int .i64 d))).atKey (kLit w) (.lit (.int .i64 0)) = .lit (.int .i64 c)) : c = d := by
  rw [atKey_put_same hm (k := kLit w) (show WideAt.IsKeyLit (.string w) from trivial)] at hat
  injection hat with h1
  injection h1 with _ h2
  exact h2.symm
theorem map_ne {H : Type} {w : World} {m n : Nat} {P : Program} {kt : TypeId} {Rd : Value → Option (DataW H × List MemPlace)} {D : DataW H} {a : Addr} {v : Value} (hm : w.ownsMap P kt Rd m n D) (h : w.cell? a = some v) : some a.block ≠ some m := by
  intro e
  have e : a.block = m := by simpa using e
  obtain ⟨es, st, hh, _⟩ := hm
  rw [← e] at hh
  simp [World.cell?, hh] at h
theorem val_put (st : St) (q n j : Nat) : (st.put q n).val j = if j = q then (n : Int) else st.val j := by
  unfold St.val St.put
  by_cases h : j = q <;> simp [h]
theorem fld_blk {w : World} {b : Nat} {cs : Array Value} {T : TypeId} {fr : Nat × Nat} (i : Nat) (hb : w.heap[b]? = some (.cells cs T fr)) (v : Value) : (w.setCell ⟨b, i, none⟩ v).heap[b]? = some (.cells (cs.setIfInBounds i v) T fr) := by
  simp [World.setCell, Array.getElem?_modify, hb]
theorem fld_set {w : World} {x : Nat} {st : St} {q n : Nat} (h : IsFld w x st.fc (st.val 0)) (hq : q < 10) : IsFld (w.setCell ⟨x, offK q, none⟩ (.int .i64 (n : Int))) x (st.put q n).fc ((st.put q n).val 0) := by
  constructor
  rw [fld_blk (offK q) h.blk]
  obtain rfl | rfl | rfl | rfl | rfl | rfl | rfl | rfl | rfl | rfl : q = 0 ∨ q = 1 ∨ q = 2 ∨ q = 3 ∨ q = 4 ∨ q = 5 ∨ q = 6 ∨ q = 7 ∨ q = 8 ∨ q = 9 := by omega
  all_goals simp [offK, St.fc, Cf.cells, val_put]
theorem set_other {w : World} {x i k : Nat} {cs cs' : Array Value} {t t' : TypeId} {fz fz' : Nat × Nat} {v : Value} (hx : w.heap[x]? = some (.cells cs' t' fz')) (hk : w.heap[k]? = some (.cells cs t fz)) (ht : t ≠ t') : (w.setCell ⟨x, i, none⟩ v).heap[k]? = some (.cells cs t fz) := by
  have hne : k ≠ x := by
    intro e; subst e
    rw [hk] at hx; cases hx; exact ht rfl
  rw [Below.heap_setCell _ _ _ _ hne]
  exact hk
theorem set_map {H : Type} {w : World} {x i m n : Nat} {cs' : Array Value} {t' : TypeId} {fz' : Nat × Nat} {v : Value} {P : Program} {kt : TypeId} {Rd : Value → Option (DataW H × List MemPlace)} {D : DataW H} (hx : w.heap[x]? = some (.cells cs' t' fz')) (h : w.ownsMap P kt Rd m n D) : (w.setCell ⟨x, i, none⟩ v).ownsMap P kt Rd m n D := by
  obtain ⟨es, ck, hm, r⟩ := h
  have hne : m ≠ x := by
    intro e; subst e
    rw [hm] at hx; cases hx
  exact ⟨es, ck, by rw [Below.heap_setCell _ _ _ _ hne]; exact hm, r⟩
theorem PbAt.keep {w wr w' : World} {r x R B m L : Nat} {ls : List ByteArray} {st : St} (h : PbAt w wr r x R B m L ls st) (hb : Below wr.heap.size wr w') : PbAt w w' r x R B m L ls st :=
  ⟨keep_heap hb h.res, h.fld.keep hb, h.rows.keep hb, keep_heap hb h.lin, h.gd.keep hb, below_after h.bel hb, h.hm0, h.hx0⟩
theorem PbAt.put {w wr : World} {r x R B m L cnt q n dn : Nat} {ls : List ByteArray} {st : St} {D : DataW Unit} (h : PbAt w wr r x R B m L ls st) (g : Gd w) (hq : q < 10) (hm : wr.ownsMap Tryd.prog 9 (plainElem Tryd.prog 3) m dn (D.put (kLit (nm q)) (.lit (.int .i64 1)))) (hdn : dn ≤ cnt) (hD : IsMap D)
    (hd : ∀ j, j < 10 → D.atKey (kLit (nm j)) (.lit (.int .i64 0)) = .lit (.int .i64 (if st j = Option.none then 0 else 1))) : PaAt w (wr.setCell ⟨x, offK q, none⟩ (.int .i64 (n : Int))) r x R B m L cnt ls (st.put q n) := by
  have hx := h.fld.blk
  have hb : Below w.heap.size w (wr.setCell ⟨x, offK q, none⟩ (.int .i64 (n : Int))) := h.bel.setCell h.hx0 _
  refine ⟨set_other hx h.res (by decide), fld_set h.fld hq, ⟨set_other hx h.rows.tab (by decide), set_other hx h.rows.c0 (by decide), set_other hx h.rows.c1 (by decide), set_other hx h.rows.c2 (by decide), set_other hx h.rows.c3 (by decide), set_other hx h.rows.c4 (by decide), set_other hx h.rows.c5 (by decide), set_other hx h.rows.c6 (by decide), set_other hx h.rows.c7 (by decide), set_other hx h.rows.c8 (by decide), set_other hx h.rows.c9 (by decide), set_other hx h.rows.c10 (by decide), set_other hx h.rows.c11 (by decide), set_other hx h.rows.c12 (by decide), set_other hx h.rows.c13 (by decide)⟩, ⟨_, dn, hdn, set_map hx hm, IsMap.put hD _ _, fun j hj => ?_⟩, set_other hx h.lin (by decide), g.keep hb, hb, h.hm0, h.hx0⟩
  by_cases e : j = q
  · subst e
    rw [atKey_put_same hD (k := kLit (nm j)) (show WideAt.IsKeyLit (.string _) from trivial)]
    simp [St.put]
  · rw [atKey_put_other (k := kLit (nm q)) (k' := kLit (nm j)) (fun h => e (nm_inj hj hq (by injection h))), hd j hj]
    simp [St.put, e]
theorem res_put {wr : World} {r : Nat} (h : wr.heap[r]? = some (.cells Cf.zero.cells 24 (0, 0))) (v0 v1 v2 v3 v4 v5 v6 v7 v8 v9 u0 : Value) :
    (((((((((((wr.setCell ⟨r, 0, none⟩ v0).setCell ⟨r, 1, none⟩ v1).setCell ⟨r, 2, none⟩ v2).setCell ⟨r, 3, none⟩ v3).setCell ⟨r, 4, none⟩ v4).setCell ⟨r, 5, none⟩ v5).setCell ⟨r, 6, none⟩ v6).setCell ⟨r, 7, none⟩ v7).setCell ⟨r, 8, none⟩ v8).setCell ⟨r, 9, none⟩ v9).setCell ⟨r, 0, none⟩ u0).heap[r]? = some (.cells #[u0, v1, v2, v3, v4, v5, v6, v7, v8, v9] 24 (0, 0)) := by
  have := fld_blk 0 (fld_blk 9 (fld_blk 8 (fld_blk 7 (fld_blk 6 (fld_blk 5 (fld_blk 4 (fld_blk 3 (fld_blk 2 (fld_blk 1 (fld_blk 0 h v0) v1) v2) v3) v4) v5) v6) v7) v8) v9) u0
  simpa [Cf.zero, Cf.cells] using this
theorem St.cf_eq (st : St) : st.cf.val = .agg #[.bool (st.val 0 == 1), .int .i64 (st.val 1), .int .i64 (st.val 2), .int .i64 (st.val 3), .int .i64 (st.val 4), .int .i64 (st.val 5), .int .i64 (st.val 6), .int .i64 (st.val 7), .int .i64 (st.val 8), .int .i64 (st.val 9)] := rfl
structure ResB (w : World) (r : Nat) (v0 v1 v2 v3 v4 v5 v6 v7 v8 v9 : Value) : Prop where
  c0 : w.cell? ⟨r, 0, none⟩ = some v0
  f0 : w.frozen? ⟨r, 0, none⟩ = false
  s0 : w.setCell ⟨r, 0, none⟩ v0 = w
  c1 : w.cell? ⟨r, 1, none⟩ = some v1
  f1 : w.frozen? ⟨r, 1, none⟩ = false
  s1 : w.setCell ⟨r, 1, none⟩ v1 = w
  c2 : w.cell? ⟨r, 2, none⟩ = some v2
  f2 : w.frozen? ⟨r, 2, none⟩ = false
  s2 : w.setCell ⟨r, 2, none⟩ v2 = w
  c3 : w.cell? ⟨r, 3, none⟩ = some v3
  f3 : w.frozen? ⟨r, 3, none⟩ = false
  s3 : w.setCell ⟨r, 3, none⟩ v3 = w
  c4 : w.cell? ⟨r, 4, none⟩ = some v4
  f4 : w.frozen? ⟨r, 4, none⟩ = false
  s4 : w.setCell ⟨r, 4, none⟩ v4 = w
  c5 : w.cell? ⟨r, 5, none⟩ = some v5
  f5 : w.frozen? ⟨r, 5, none⟩ = false
  s5 : w.setCell ⟨r, 5, none⟩ v5 = w
  c6 : w.cell? ⟨r, 6, none⟩ = some v6
  f6 : w.frozen? ⟨r, 6, none⟩ = false
  s6 : w.setCell ⟨r, 6, none⟩ v6 = w
  c7 : w.cell? ⟨r, 7, none⟩ = some v7
  f7 : w.frozen? ⟨r, 7, none⟩ = false
  s7 : w.setCell ⟨r, 7, none⟩ v7 = w
  c8 : w.cell? ⟨r, 8, none⟩ = some v8
  f8 : w.frozen? ⟨r, 8, none⟩ = false
  s8 : w.setCell ⟨r, 8, none⟩ v8 = w
  c9 : w.cell? ⟨r, 9, none⟩ = some v9
  f9 : w.frozen? ⟨r, 9, none⟩ = false
  s9 : w.setCell ⟨r, 9, none⟩ v9 = w
theorem resB {w : World} {r : Nat} {v0 v1 v2 v3 v4 v5 v6 v7 v8 v9 : Value} (h : w.heap[r]? = some (.cells #[v0, v1, v2, v3, v4, v5, v6, v7, v8, v9] 24 (0, 0))) : ResB w r v0 v1 v2 v3 v4 v5 v6 v7 v8 v9 := by
  constructor
  all_goals first | exact frozen_of h | exact cell_in h rfl | exact setCell_id h rfl
theorem cells_at {w : World} {b j : Nat} {ls : List ByteArray} {l : ByteArray} {t : TypeId} (h : w.heap[b]? = some (.cells (ls.map Value.string).toArray t (0, 0))) (hj : ls[j]? = some l) : w.cell? ⟨b, j, none⟩ = some (.string l) :=
  cell_in h (by simp [hj])
theorem own_at {w : World} {B A : Nat} {ws : List ByteArray} {j : Nat} {s : ByteArray} (h : w.ownsRow B 9 1 (.slice (some ⟨A, 0, none⟩) ws.length ws.length) ws.length (ws.map Value.string)) (hj : ws[j]? = some s) : w.cell? ⟨A, j, none⟩ = some (.string s) := by
  have := h.cells (g := A) rfl j (.string s) (by simp [hj])
  rw [Addr.add_lit, Nat.zero_add] at this
  exact this
set_option maxRecDepth 100000 in
set_option maxHeartbeats 8000000 in
theorem parse_short (s : ByteArray) (w : World) (g : Gd w) (hs : s.size ≤ 65536) : Calls Tryd.prog 22 #[.string s] w (PaEnd s.data.toList w) := by
  have hmm := @run_makeMap Tryd.prog
  have hs16 : decide (65536 < (s.size : Int)) = false := by simp; omega
  have hb0 := below_alloc1 w (.cells Cf.zero.cells 24)
  have hr0 : (w.alloc (.cells Cf.zero.cells 24)).heap[w.heap.size]? = some (.cells Cf.zero.cells 24 (0, 0)) := heap_at _ rfl
  have g0 := g.keep hb0
  obtain ⟨r, hr⟩ : ∃ r, w.heap.size = r := ⟨_, rfl⟩
  have HRR := hide hr
  rw [hr] at hr0
  clear hr
  simp only [Cf.zero, Cf.cells] at hb0 hr0 g0
  go_enter Tryd.func22, Tryd.ntmps22
  go_wp2_with fail
  go_step3
  go_wp2_with fail
  refine (default_any false _).mono ?_; rintro e w1 ⟨rfl, hb1⟩
  have bel1 := below_after hb0 hb1
  have g1 := g0.keep hb1
  have hr1 := keep_heap hb1 hr0
  clear hb0 hb1 g0 hr0
  go_wp2_with fail
  refine (opened_any (Cf.dflt false) _).mono ?_; rintro e w2 ⟨x, rfl, hx, hf, hb2⟩
  have bel2 := below_after bel1 hb2
  have g2 := g1.keep hb2
  have hr2 := keep_heap hb2 hr1
  have hx0 : w.heap.size ≤ x := Nat.le_trans bel1.size hx
  clear bel1 g1 hr1 hb2 hx
  go_wp2_with fail
  have hb3 := below_alloc1 w2 (.map #[] 0)
  have hm := had_none w2
  have hf := hf.keep hb3
  have bel3 := below_after bel2 hb3
  have g3 := g2.keep hb3
  have hr3 := keep_heap hb3 hr2
  obtain ⟨W3, hW3⟩ : ∃ W, W = w2.alloc (.map #[] 0) := ⟨_, rfl⟩
  obtain ⟨m, hmb⟩ : ∃ m, m = w2.heap.size := ⟨_, rfl⟩
  have hm0 : w.heap.size ≤ m := by rw [hmb]; exact bel2.size
  rw [← hW3] at hm hf bel3 g3 hr3 ⊢
  rw [← hmb] at hm ⊢
  clear hW3 hmb hb3 bel2 g2 hr2
  refine (rows_any _).mono ?_; rintro e w4 ⟨R, rfl, hR, ⟨B, hrows⟩, hb4⟩
  have bel4 := below_after bel3 hb4
  have g4 := g3.keep hb4
  have hr4 := keep_heap hb4 hr3
  have hf := hf.keep hb4
  have hm := hm.keep hb4
  obtain ⟨mx, hmx⟩ := g4.mx
  clear hb4 bel3 g3 hr3 hR
  go_wp2_with fail
  go_step3
  go_wp2_with fail
  rw [HRR.out]
  refine (Tryd.strings_Split s ⟨#[10]⟩ mx _ (by omega) hmx (by decide)).mono ?_; rintro e w5 ⟨rfl, hw5⟩
  have hlin : w5.heap[w4.heap.size]? = some (.cells ((splitB ⟨#[10]⟩ 0 (countB s ⟨#[10]⟩) s).map Value.string).toArray 9 (0, 0)) := by rw [hw5]; exact heap_at _ rfl
  have hll : (splitB ⟨#[10]⟩ 0 (countB s ⟨#[10]⟩) s).length = countB s ⟨#[10]⟩ + 1 := splitB_all _ (by decide) 0 _ s rfl
  have hls := splitB_spl 10 s
  have hb5 : Below w4.heap.size w4 w5 := by rw [hw5]; exact below_alloc1 _ _
  have hbig : countB s ⟨#[10]⟩ ≤ s.size := countB_le ⟨#[10]⟩ (by decide) s.size s (Nat.le_refl _)
  clear hw5
  obtain ⟨ls, hlsd⟩ : ∃ ls, splitB ⟨#[10]⟩ 0 (countB s ⟨#[10]⟩) s = ls := ⟨_, rfl⟩
  rw [hlsd] at hlin hll hls
  clear hlsd
  obtain ⟨n, hn⟩ : ∃ n, countB s ⟨#[10]⟩ + 1 = n := ⟨_, rfl⟩
  have hn16 : n ≤ 65537 := by omega
  rw [hn] at hll ⊢
  clear hn
  obtain ⟨L, hL⟩ : ∃ L, w4.heap.size = L := ⟨_, rfl⟩
  rw [hL] at hlin ⊢
  clear hL
  obtain rfl : ls.length = n := hll
  have hA : PaAt w w5 r x R B m L 0 ls St.none := ⟨keep_heap hb5 hr4, hf.keep hb5, hrows.keep hb5, hm.keep hb5, hlin, g4.keep hb5, below_after bel4 hb5, hm0, hx0⟩
  have HLS := hide hls
  clear hls hb5 hlin hmx g4 bel4 hr4 hf hm hrows
  go_wp2_with fail
  go_loopw [26] (PaRel w r x R B m L ls) (fun i _ => (ls.length - (intOf i).toNat))
  case atStart => exact ⟨0, St.none, rfl, Nat.zero_le _, rfl, hA⟩
  case round =>
    clear hA
    obtain ⟨k, st, rfl, hk, hrd, hA⟩ := hrel
    by_cases hlt : k < ls.length
    · obtain ⟨l, hl⟩ : ∃ l, ls[k]? = some l := ⟨_, List.getElem?_eq_getElem hlt⟩
      have hc := cells_at hA.lin hl
      have HL := hide (And.intro hrd hl)
      have hls : l.size ≤ 65536 := by
        have h1 : l.data.toList ∈ spl 10 s.data.toList := by rw [← HLS.out]; exact List.mem_map_of_mem (List.mem_of_getElem? hl)
        have h2 := spl_le 10 _ _ h1
        rw [← Lib.size_eq, ← Lib.size_eq] at h2
        omega
      clear hrd hl
      go_wp2_with fail
      refine (words_any l _ (by omega)).mono ?_; rintro e w1 ⟨v, ws, rfl, hws, ⟨A, rfl, hA1, hown⟩, hb1⟩
      have hP := hA.keep hb1
      have HW := hide hws
      clear hws hA hb1 hc
      cases ws with
      | nil =>
        simp only [List.length_nil] at hown ⊢
        go_wp2_with fail
        go_roundw
        case rel => exact ⟨k + 1, st, by go_num, by omega, rd_next HL.out.1 (lines_at HL.out.2) (rdLine_blank st (by rw [← HW.out]; rfl)), (hP.keep (below_alloc1 _ _)).mono (by omega)⟩
        case measure => simp [intOf]; omega
      | cons s0 ws =>
        have hc0 := own_at hown (j := 0) (s := s0) rfl
        obtain ⟨N, hN⟩ : ∃ N, (s0 :: ws).length = N := ⟨_, rfl⟩
        have hN1 : 1 ≤ N := by rw [← hN]; simp
        have hnz : ((N : Int) == 0) = false := by simp; omega
        have i0 : (0 : Int) ≤ 0 := by omega
        have i1 : (0 : Int) < (N : Int) := by omega
        have hs0 : 0 < s0.size := by
          have hm : s0.data.toList ∈ wds l.data.toList := by rw [← HW.out]; simp
          have hne := wds_ne hm
          rw [Lib.size_eq]
          exact List.length_pos_iff.2 hne
        have j1 : (0 : Int) < (s0.size : Int) := by omega
        have hc0a := keep_cell (below_alloc1 w1 (.cells #[.slice (some ⟨A, 0, none⟩) N N] 35)) hc0
        rw [hN] at hown ⊢
        have HN := hide (And.intro hN (And.intro hown hc0))
        clear hc0
        clear hN hown
        by_cases h35 : (((s0[0]'hs0).toNat : Int) == 35) = true
        · go_wp2_with fail
          go_roundw
          case rel => exact ⟨k + 1, st, by go_num, by omega, rd_next HL.out.1 (lines_at HL.out.2) (rdLine_note st (by rw [← HW.out]; rfl) (head_is hs0 h35)), (hP.keep (below_alloc1 _ _)).mono (by omega)⟩
          case measure => simp [intOf]; omega
        · have h35 : (((s0[0]'hs0).toNat : Int) == 35) = false := by simpa using h35
          go_wp2_with fail
          have H35 := hide h35
          have hbv := below_alloc1 w1 (.cells #[.slice (some ⟨A, 0, none⟩) N N] 35)
          have hP2 := hP.keep hbv
          have hv2 : (w1.alloc (.cells #[.slice (some ⟨A, 0, none⟩) N N] 35)).heap[w1.heap.size]? = some (.cells #[.slice (some ⟨A, 0, none⟩) N N] 35 (0, 0)) := heap_at _ rfl
          obtain ⟨W2, hW2⟩ : ∃ W, W = w1.alloc (.cells #[.slice (some ⟨A, 0, none⟩) N N] 35) := ⟨_, rfl⟩
          obtain ⟨V, hV⟩ : ∃ V, V = w1.heap.size := ⟨_, rfl⟩
          rw [← hW2] at hbv hP2 hv2 hc0a ⊢
          rw [← hV] at hv2 ⊢
          clear hW2 hV h35 hP hs16
          have hidx := idx_any R B V A N s0 W2 hP2.rows (lt_of_heap hv2) hN1 (one_at hv2) hc0a
          have hsz0 : s0.size ≤ 65536 := by
            have hm : s0.data.toList ∈ wds l.data.toList := by rw [← HW.out]; simp
            have h2 := wds_le hm
            rw [← Lib.size_eq, ← Lib.size_eq] at h2
            omega
          have hkey : keyOf Tryd.prog 9 (.string s0) = some (kLit s0.data.toList) := keyOf_string_mk Tryd.underlying9 (by unfold maxLen; omega)
          cases hpl : place s0.data.toList with
          | none =>
            have hpi : placeI s0.data.toList = -1 := by unfold placeI; rw [hpl]
            rw [hpi] at hidx
            have HPL := hide hpl
            clear hpi hpl
            refine hidx.mono ?_; rintro e w2 ⟨rfl, hb2⟩
            have hP3 := hP2.keep hb2
            have hv3 := keep_heap hb2 hv2
            have hc3 := keep_cell hb2 hc0a
            have hc4 := one_at hv3
            clear hidx hP2 hv2 hc0a hb2
            obtain ⟨D, dn, hdn, hmap, hDm, hD⟩ := hP3.had
            obtain ⟨c1, hrun, hat, hwc⟩ := hmap.lookup_int law9 Tryd.underlying86 Tryd.underlying3 (zero3 _) hkey
            have HAT := hide (And.intro hat hD)
            clear hat hD
            go_wp2_with (at_mapUpdate; refine wpList_mapUpdate_own _ rfl _ _ _ 86 rfl 9 3 law9 Tryd.underlying86 _ m dn _ rfl hmap (by unfold maxLen; omega) _ _ _ rfl rfl hkey _ [] (plainElem_int Tryd.underlying3 (wrap64_wf _)) ?_; intro w3 hmap3 hg3; have hP4 := hP3.mapped hmap hg3 g; have hq := resOk hP4.res; obtain ⟨c0_, f0_, s0_, c1_, f1_, s1_, c2_, f2_, s2_, c3_, f3_, s3_, c4_, f4_, s4_, c5_, f5_, s5_, c6_, f6_, s6_, c7_, f7_, s7_, c8_, f8_, s8_, c9_, f9_, s9_⟩ := hq)
            rw [Exit.noGoto_ret]
            exact bodyPost_ret (v := .tuple #[Cf.zero.val, .int .i64 ((k : Int) + 1), .int .i64 4]) (by simp [results, Tryd.results22, go_sem, Cf.val, Cf.cells, Cf.zero, c0_, c1_, c2_, c3_, c4_, c5_, c6_, c7_, c8_, c9_]) rfl (pa_err (parse_err (by rw [← Lib.size_eq]; exact hs) (HLS.out ▸ HL.out.1) (HLS.out ▸ lines_at HL.out.2) (rdLine_noname HW.out.symm (head_not hs0 H35.out) HPL.out)) hP4.bel)
          | some q =>
            have hq := (place_some hpl).1
            have hpi : placeI s0.data.toList = (q : Int) := by unfold placeI; rw [hpl]
            rw [hpi] at hidx
            have HPL := hide hpl
            clear hpi hpl
            refine hidx.mono ?_; rintro e w2 ⟨rfl, hb2⟩
            have hP3 := hP2.keep hb2
            have hv3 := keep_heap hb2 hv2
            have hc3 := keep_cell hb2 hc0a
            have hc4 := one_at hv3
            have hne3 := HN.out.2.2
            clear hidx hP2 hv2 hc0a hne3
            obtain ⟨D, dn, hdn, hmap, hDm, hD⟩ := hP3.had
            obtain ⟨c1, hrun, hat, hwc⟩ := hmap.lookup_int law9 Tryd.underlying86 Tryd.underlying3 (zero3 _) hkey
            have hc1 := had_now HPL.out hat hD
            have HD := hide hD
            clear hat hD
            cases hst : st q with
            | some n0 =>
              rw [hst] at hc1
              obtain rfl : c1 = 1 := by simpa using hc1
              have HST := hide hst
              clear hst hc1
              go_wp2_with (at_mapUpdate; refine wpList_mapUpdate_own _ rfl _ _ _ 86 rfl 9 3 law9 Tryd.underlying86 _ m dn _ rfl hmap (by unfold maxLen; omega) _ _ _ rfl rfl hkey _ [] (plainElem_int (a := 2) Tryd.underlying3 (by decide)) ?_; intro w3 hmap3 hg3; have hP4 := hP3.mapped hmap hg3 g; have hq_ := resOk hP4.res; obtain ⟨c0_, f0_, s0_, c1_, f1_, s1_, c2_, f2_, s2_, c3_, f3_, s3_, c4_, f4_, s4_, c5_, f5_, s5_, c6_, f6_, s6_, c7_, f7_, s7_, c8_, f8_, s8_, c9_, f9_, s9_⟩ := hq_; obtain ⟨c2, hrun2, hat2, hwc2⟩ := hmap3.lookup_int law9 Tryd.underlying86 Tryd.underlying3 (zero3 _) hkey; obtain rfl := put_now hDm hat2; have hv4 := grown_cells hmap hg3 hv3; have hc5 := hg3.cell hc3 (map_ne hmap hc3); have hc6 := one_at hv4; clear hat2)
              rw [Exit.noGoto_ret]
              exact bodyPost_ret (v := .tuple #[Cf.zero.val, .int .i64 ((k : Int) + 1), .int .i64 4]) (by simp [results, Tryd.results22, go_sem, Cf.val, Cf.cells, Cf.zero, c0_, c1_, c2_, c3_, c4_, c5_, c6_, c7_, c8_, c9_]) rfl (pa_err (parse_err (by rw [← Lib.size_eq]; exact hs) (HLS.out ▸ HL.out.1) (HLS.out ▸ lines_at HL.out.2) (rdLine_twice HW.out.symm (head_not hs0 H35.out) HPL.out HST.out)) hP4.bel)
            | none =>
              rw [hst] at hc1
              obtain rfl : c1 = 0 := by simpa using hc1
              have HST := hide hst
              clear hst hc1
              by_cases hN2 : N = 2
              · subst hN2
                obtain ⟨s1, rfl⟩ : ∃ s1, ws = [s1] := by
                  have := HN.out.1
                  match ws, this with
                  | [s1], _ => exact ⟨s1, rfl⟩
                have hcb := keep_cell hb2 (keep_cell hbv (own_at HN.out.2.1 (j := 1) (s := s1) rfl))
                have hsz1 : s1.size ≤ 65536 := by
                  have hm : s1.data.toList ∈ wds l.data.toList := by rw [← HW.out]; simp
                  have h2 := wds_le hm
                  rw [← Lib.size_eq, ← Lib.size_eq] at h2
                  omega
                go_wp2_with (at_mapUpdate; refine wpList_mapUpdate_own _ rfl _ _ _ 86 rfl 9 3 law9 Tryd.underlying86 _ m dn _ rfl hmap (by unfold maxLen; omega) _ _ _ rfl rfl hkey _ [] (plainElem_int (a := 1) Tryd.underlying3 (by decide)) ?_; intro w3 hmap3 hg3; have hP4 := hP3.mapped hmap hg3 g; obtain ⟨c2, hrun2, hat2, hwc2⟩ := hmap3.lookup_int law9 Tryd.underlying86 Tryd.underlying3 (zero3 _) hkey; obtain rfl := put_now hDm hat2; have hv4 := grown_cells hmap hg3 hv3; have hc5 := hg3.cell hc3 (map_ne hmap hc3); have hc6 := one_at hv4; have hc7 := hg3.cell hcb (map_ne hmap hcb); clear hat2)
                refine (number_any s1 _ hP4.gd (by omega)).mono ?_; rintro e w4 ⟨⟨v, rfl, hvn⟩, hb4⟩
                have hP5 := hP4.keep hb4
                have hmap4 := ownsMap_keep hmap3 hb4
                have HM := hide (And.intro hmap4 hvn)
                clear hP4 hmap4 hb4 hvn hrun2 hc5 hc6 hc7 hv4 hmap3 hg3 hP3 hrun hc3 hc4 hv3 hmap hcb
                cases hnp : numP s1.data.toList with
                | none =>
                  have HNP := hide hnp
                  clear hnp
                  simp only [HNP.out, Option.isSome_none]
                  have hq_ := resOk hP5.res
                  obtain ⟨c0_, f0_, s0_, c1_, f1_, s1_, c2_, f2_, s2_, c3_, f3_, s3_, c4_, f4_, s4_, c5_, f5_, s5_, c6_, f6_, s6_, c7_, f7_, s7_, c8_, f8_, s8_, c9_, f9_, s9_⟩ := hq_
                  go_wp2_with fail
                  try rw [Exit.noGoto_ret]
                  exact bodyPost_ret (v := .tuple #[Cf.zero.val, .int .i64 ((k : Int) + 1), .int .i64 4]) (by simp [results, Tryd.results22, go_sem, Cf.val, Cf.cells, Cf.zero, c0_, c1_, c2_, c3_, c4_, c5_, c6_, c7_, c8_, c9_]) rfl (pa_err (parse_err (by rw [← Lib.size_eq]; exact hs) (HLS.out ▸ HL.out.1) (HLS.out ▸ lines_at HL.out.2) (rdLine_nonum HW.out.symm (head_not hs0 H35.out) HPL.out HNP.out)) hP5.bel)
                | some n =>
                  have HNP := hide hnp
                  obtain rfl := HM.out.2 n hnp
                  clear hnp
                  simp only [HNP.out, Option.isSome_some]
                  by_cases hbad : q = 0 ∧ 1 < n
                  · obtain ⟨rfl, h1n⟩ := hbad
                    have hq_ := resOk hP5.res
                    obtain ⟨c0_, f0_, s0_, c1_, f1_, s1_, c2_, f2_, s2_, c3_, f3_, s3_, c4_, f4_, s4_, c5_, f5_, s5_, c6_, f6_, s6_, c7_, f7_, s7_, c8_, f8_, s8_, c9_, f9_, s9_⟩ := hq_
                    go_wp2_with fail
                    try rw [Exit.noGoto_ret]
                    exact bodyPost_ret (v := .tuple #[Cf.zero.val, .int .i64 ((k : Int) + 1), .int .i64 4]) (by simp [results, Tryd.results22, go_sem, Cf.val, Cf.cells, Cf.zero, c0_, c1_, c2_, c3_, c4_, c5_, c6_, c7_, c8_, c9_]) rfl (pa_err (parse_err (by rw [← Lib.size_eq]; exact hs) (HLS.out ▸ HL.out.1) (HLS.out ▸ lines_at HL.out.2) (rdLine_two HW.out.symm (head_not hs0 H35.out) HPL.out HNP.out h1n)) hP5.bel)
                  · have HBAD := hide hbad
                    clear hbad
                    obtain rfl | rfl | rfl | rfl | rfl | rfl | rfl | rfl | rfl | rfl : q = 0 ∨ q = 1 ∨ q = 2 ∨ q = 3 ∨ q = 4 ∨ q = 5 ∨ q = 6 ∨ q = 7 ∨ q = 8 ∨ q = 9 := by omega
                    · obtain ⟨e0, e1, e2⟩ := hP5.rows.r0
                      have d0 := hP5.fld.srv
                      have d1 := hP5.fld.free 10
                      have hn1 : (n : Int) ≤ 1 := by have := HBAD.out; omega
                      go_wp2_with fail
                      refine (n_0 x _).mono ?_; rintro e w5 ⟨rfl, rfl⟩
                      go_wp2_with fail
                      go_roundw
                      case rel => exact ⟨k + 1, st.put 0 n, by go_num, by omega, rd_next HL.out.1 (lines_at HL.out.2) (rdLine_yes HW.out.symm (head_not hs0 H35.out) HPL.out HST.out HNP.out (fun _ => by omega)), hP5.put g (q := 0) (n := n) hq ((place_some HPL.out).2 ▸ HM.out.1) (by omega) hDm HD.out⟩
                      case measure => simp [intOf]; omega
                    · obtain ⟨e0, e1, e2⟩ := hP5.rows.r1
                      have d0 := hP5.fld.cf.h1
                      have d1 := hP5.fld.free 1
                      go_wp2_with fail
                      refine (n_1 x _).mono ?_; rintro e w5 ⟨rfl, rfl⟩
                      go_wp2_with fail
                      go_roundw
                      case rel => exact ⟨k + 1, st.put 1 n, by go_num, by omega, rd_next HL.out.1 (lines_at HL.out.2) (rdLine_yes HW.out.symm (head_not hs0 H35.out) HPL.out HST.out HNP.out (fun e => by omega)), hP5.put g (q := 1) (n := n) hq ((place_some HPL.out).2 ▸ HM.out.1) (by omega) hDm HD.out⟩
                      case measure => simp [intOf]; omega
                    · obtain ⟨e0, e1, e2⟩ := hP5.rows.r2
                      have d0 := hP5.fld.cf.h2
                      have d1 := hP5.fld.free 2
                      go_wp2_with fail
                      refine (n_2 x _).mono ?_; rintro e w5 ⟨rfl, rfl⟩
                      go_wp2_with fail
                      go_roundw
                      case rel => exact ⟨k + 1, st.put 2 n, by go_num, by omega, rd_next HL.out.1 (lines_at HL.out.2) (rdLine_yes HW.out.symm (head_not hs0 H35.out) HPL.out HST.out HNP.out (fun e => by omega)), hP5.put g (q := 2) (n := n) hq ((place_some HPL.out).2 ▸ HM.out.1) (by omega) hDm HD.out⟩
                      case measure => simp [intOf]; omega
                    · obtain ⟨e0, e1, e2⟩ := hP5.rows.r3
                      have d0 := hP5.fld.cf.h3
                      have d1 := hP5.fld.free 3
                      go_wp2_with fail
                      refine (n_3 x _).mono ?_; rintro e w5 ⟨rfl, rfl⟩
                      go_wp2_with fail
                      go_roundw
                      case rel => exact ⟨k + 1, st.put 3 n, by go_num, by omega, rd_next HL.out.1 (lines_at HL.out.2) (rdLine_yes HW.out.symm (head_not hs0 H35.out) HPL.out HST.out HNP.out (fun e => by omega)), hP5.put g (q := 3) (n := n) hq ((place_some HPL.out).2 ▸ HM.out.1) (by omega) hDm HD.out⟩
                      case measure => simp [intOf]; omega
                    · obtain ⟨e0, e1, e2⟩ := hP5.rows.r4
                      have d0 := hP5.fld.cf.h4
                      have d1 := hP5.fld.free 4
                      go_wp2_with fail
                      refine (n_4 x _).mono ?_; rintro e w5 ⟨rfl, rfl⟩
                      go_wp2_with fail
                      go_roundw
                      case rel => exact ⟨k + 1, st.put 4 n, by go_num, by omega, rd_next HL.out.1 (lines_at HL.out.2) (rdLine_yes HW.out.symm (head_not hs0 H35.out) HPL.out HST.out HNP.out (fun e => by omega)), hP5.put g (q := 4) (n := n) hq ((place_some HPL.out).2 ▸ HM.out.1) (by omega) hDm HD.out⟩
                      case measure => simp [intOf]; omega
                    · obtain ⟨e0, e1, e2⟩ := hP5.rows.r5
                      have d0 := hP5.fld.cf.h5
                      have d1 := hP5.fld.free 5
                      go_wp2_with fail
                      refine (n_5 x _).mono ?_; rintro e w5 ⟨rfl, rfl⟩
                      go_wp2_with fail
                      go_roundw
                      case rel => exact ⟨k + 1, st.put 5 n, by go_num, by omega, rd_next HL.out.1 (lines_at HL.out.2) (rdLine_yes HW.out.symm (head_not hs0 H35.out) HPL.out HST.out HNP.out (fun e => by omega)), hP5.put g (q := 5) (n := n) hq ((place_some HPL.out).2 ▸ HM.out.1) (by omega) hDm HD.out⟩
                      case measure => simp [intOf]; omega
                    · obtain ⟨e0, e1, e2⟩ := hP5.rows.r6
                      have d0 := hP5.fld.cf.h6
                      have d1 := hP5.fld.free 6
                      go_wp2_with fail
                      refine (n_6 x _).mono ?_; rintro e w5 ⟨rfl, rfl⟩
                      go_wp2_with fail
                      go_roundw
                      case rel => exact ⟨k + 1, st.put 6 n, by go_num, by omega, rd_next HL.out.1 (lines_at HL.out.2) (rdLine_yes HW.out.symm (head_not hs0 H35.out) HPL.out HST.out HNP.out (fun e => by omega)), hP5.put g (q := 6) (n := n) hq ((place_some HPL.out).2 ▸ HM.out.1) (by omega) hDm HD.out⟩
                      case measure => simp [intOf]; omega
                    · obtain ⟨e0, e1, e2⟩ := hP5.rows.r7
                      have d0 := hP5.fld.cf.h7
                      have d1 := hP5.fld.free 7
                      go_wp2_with fail
                      refine (n_7 x _).mono ?_; rintro e w5 ⟨rfl, rfl⟩
                      go_wp2_with fail
                      go_roundw
                      case rel => exact ⟨k + 1, st.put 7 n, by go_num, by omega, rd_next HL.out.1 (lines_at HL.out.2) (rdLine_yes HW.out.symm (head_not hs0 H35.out) HPL.out HST.out HNP.out (fun e => by omega)), hP5.put g (q := 7) (n := n) hq ((place_some HPL.out).2 ▸ HM.out.1) (by omega) hDm HD.out⟩
                      case measure => simp [intOf]; omega
                    · obtain ⟨e0, e1, e2⟩ := hP5.rows.r8
                      have d0 := hP5.fld.cf.h8
                      have d1 := hP5.fld.free 8
                      go_wp2_with fail
                      refine (n_8 x _).mono ?_; rintro e w5 ⟨rfl, rfl⟩
                      go_wp2_with fail
                      go_roundw
                      case rel => exact ⟨k + 1, st.put 8 n, by go_num, by omega, rd_next HL.out.1 (lines_at HL.out.2) (rdLine_yes HW.out.symm (head_not hs0 H35.out) HPL.out HST.out HNP.out (fun e => by omega)), hP5.put g (q := 8) (n := n) hq ((place_some HPL.out).2 ▸ HM.out.1) (by omega) hDm HD.out⟩
                      case measure => simp [intOf]; omega
                    · obtain ⟨e0, e1, e2⟩ := hP5.rows.r9
                      have d0 := hP5.fld.cf.h9
                      have d1 := hP5.fld.free 9
                      go_wp2_with fail
                      refine (n_9 x _).mono ?_; rintro e w5 ⟨rfl, rfl⟩
                      go_wp2_with fail
                      go_roundw
                      case rel => exact ⟨k + 1, st.put 9 n, by go_num, by omega, rd_next HL.out.1 (lines_at HL.out.2) (rdLine_yes HW.out.symm (head_not hs0 H35.out) HPL.out HST.out HNP.out (fun e => by omega)), hP5.put g (q := 9) (n := n) hq ((place_some HPL.out).2 ▸ HM.out.1) (by omega) hDm HD.out⟩
                      case measure => simp [intOf]; omega
              · have hN2' : ((N : Int) != 2) = true := by simp; omega
                have HN2 := hide hN2
                clear hN2
                go_wp2_with (at_mapUpdate; refine wpList_mapUpdate_own _ rfl _ _ _ 86 rfl 9 3 law9 Tryd.underlying86 _ m dn _ rfl hmap (by unfold maxLen; omega) _ _ _ rfl rfl hkey _ [] (plainElem_int (a := 1) Tryd.underlying3 (by decide)) ?_; intro w3 hmap3 hg3; have hP4 := hP3.mapped hmap hg3 g; have hq_ := resOk hP4.res; obtain ⟨c0_, f0_, s0_, c1_, f1_, s1_, c2_, f2_, s2_, c3_, f3_, s3_, c4_, f4_, s4_, c5_, f5_, s5_, c6_, f6_, s6_, c7_, f7_, s7_, c8_, f8_, s8_, c9_, f9_, s9_⟩ := hq_; obtain ⟨c2, hrun2, hat2, hwc2⟩ := hmap3.lookup_int law9 Tryd.underlying86 Tryd.underlying3 (zero3 _) hkey; obtain rfl := put_now hDm hat2; have hv4 := grown_cells hmap hg3 hv3; have hc5 := hg3.cell hc3 (map_ne hmap hc3); have hc6 := one_at hv4; clear hat2)
                rw [Exit.noGoto_ret]
                exact bodyPost_ret (v := .tuple #[Cf.zero.val, .int .i64 ((k : Int) + 1), .int .i64 4]) (by simp [results, Tryd.results22, go_sem, Cf.val, Cf.cells, Cf.zero, c0_, c1_, c2_, c3_, c4_, c5_, c6_, c7_, c8_, c9_]) rfl (pa_err (parse_err (by rw [← Lib.size_eq]; exact hs) (HLS.out ▸ HL.out.1) (HLS.out ▸ lines_at HL.out.2) (rdLine_count HW.out.symm (head_not hs0 H35.out) HPL.out (by have h1 := HN.out.1; have h2 := HN2.out; simp only [List.length_cons] at h1; simp only [List.length_map]; omega))) hP4.bel)
    · obtain rfl : k = ls.length := by omega
      have hdone : parseC s.data.toList = if st.cf.ok then (st.cf, 0, 0) else (Cf.zero, 0, 9) := parse_done (by rw [← Lib.size_eq]; exact hs) (by
        rw [← HLS.out]
        rw [List.take_of_length_le (by simp)] at hrd
        exact hrd)
      have HDONE := hide hdone
      clear hdone hrd
      have hr0 : w.heap.size ≤ r := by have := HRR.out; omega
      have hq_ := resOk hA.res
      obtain ⟨c0_, f0_, s0_, c1_, f1_, s1_, c2_, f2_, s2_, c3_, f3_, s3_, c4_, f4_, s4_, c5_, f5_, s5_, c6_, f6_, s6_, c7_, f7_, s7_, c8_, f8_, s8_, c9_, f9_, s9_⟩ := hq_
      clear s0_ s1_ s2_ s3_ s4_ s5_ s6_ s7_ s8_ s9_
      obtain ⟨e0, e1, e2, e3, e4, e5, e6, e7, e8, e9⟩ := hA.fld.cf
      have e10 := hA.fld.srv
      simp only [St.fc] at e0 e1 e2 e3 e4 e5 e6 e7 e8 e9
      have hk := check_any st.cf
      rw [St.cf_eq] at hk
      by_cases hok : st.cf.ok
      · have he : errOf st.cf = 0 := by unfold errOf; rw [if_pos hok]
        rw [he] at hk
        have HOK := hide hok
        clear he hok
        go_wp2_with fail
        refine (hk _).mono ?_; rintro e w2 ⟨rfl, hb2⟩
        have hb2_ := below_after (by iterate 11 refine Below.setCell ?_ hr0 _
                                     exact hA.bel) hb2
        have hq_ := resB (keep_heap hb2 (res_put hA.res _ _ _ _ _ _ _ _ _ _ _))
        clear hb2 hk e0 e1 e2 e3 e4 e5 e6 e7 e8 e9 e10 c0_ f0_ c1_ f1_ c2_ f2_ c3_ f3_ c4_ f4_ c5_ f5_ c6_ f6_ c7_ f7_ c8_ f8_ c9_ f9_
        obtain ⟨c0_, f0_, s0_, c1_, f1_, s1_, c2_, f2_, s2_, c3_, f3_, s3_, c4_, f4_, s4_, c5_, f5_, s5_, c6_, f6_, s6_, c7_, f7_, s7_, c8_, f8_, s8_, c9_, f9_, s9_⟩ := hq_
        go_wp2_with fail
        try rw [Exit.noGoto_ret]
        exact bodyPost_ret (v := .tuple #[st.cf.val, .int .i64 0, .int .i64 0]) (by simp [results, Tryd.results22, go_sem, Cf.val, Cf.cells, St.cf, c0_, c1_, c2_, c3_, c4_, c5_, c6_, c7_, c8_, c9_]) rfl (pa_ok (by rw [HDONE.out, if_pos HOK.out]) hb2_)
      · have he : errOf st.cf = 9 := by unfold errOf; rw [if_neg hok]
        rw [he] at hk
        have HOK := hide hok
        clear he hok
        go_wp2_with fail
        refine (hk _).mono ?_; rintro e w2 ⟨rfl, hb2⟩
        have hb2_ := below_after (by iterate 11 refine Below.setCell ?_ hr0 _
                                     exact hA.bel) hb2
        have hq_ := resB (keep_heap hb2 (res_put hA.res _ _ _ _ _ _ _ _ _ _ _))
        clear hb2 hk e0 e1 e2 e3 e4 e5 e6 e7 e8 e9 e10 c0_ f0_ c1_ f1_ c2_ f2_ c3_ f3_ c4_ f4_ c5_ f5_ c6_ f6_ c7_ f7_ c8_ f8_ c9_ f9_
        obtain ⟨c0_, f0_, s0_, c1_, f1_, s1_, c2_, f2_, s2_, c3_, f3_, s3_, c4_, f4_, s4_, c5_, f5_, s5_, c6_, f6_, s6_, c7_, f7_, s7_, c8_, f8_, s8_, c9_, f9_, s9_⟩ := hq_
        clear s0_ s1_ s2_ s3_ s4_ s5_ s6_ s7_ s8_ s9_
        go_wp2_with fail
        try rw [Exit.noGoto_ret]
        refine bodyPost_ret (v := .tuple #[Cf.zero.val, .int .i64 0, .int .i64 9]) (by simp [results, Tryd.results22, go_sem, Cf.val, Cf.cells, Cf.zero, c0_, c1_, c2_, c3_, c4_, c5_, c6_, c7_, c8_, c9_]) rfl (pa_ok (by rw [HDONE.out, if_neg HOK.out]) ?_)
        iterate 10 refine Below.setCell ?_ hr0 _
        exact hb2_
theorem parse_any (s : ByteArray) (w : World) (g : Gd w) : Calls Tryd.prog 22 #[.string s] w (PaEnd s.data.toList w) := by
  by_cases h : 65536 < s.size
  · exact parse_long s w h
  · exact parse_short s w g (by omega)
end Go.Proofs.YtjhkgoppopfoaaaDoor
