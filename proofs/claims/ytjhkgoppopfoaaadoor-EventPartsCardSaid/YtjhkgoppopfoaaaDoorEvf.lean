/-
  The table of forms: how events of a kind are written; walked once.
-/
import Derived.Test.YtjhkgoppopfoaaaDoorGood
import Derived.Laws.EntriesVeiled
import Derived.Maps.OwnSet
import Derived.Maps.RangeWalk
namespace Go.Proofs.YtjhkgoppopfoaaaDoor
open Go.RowKit Go.Lib Go.Maps
set_option linter.unusedVariables false
set_option linter.unusedSimpArgs false

/-- A field of an event: where it lies (1, 2, 3), from where to where it goes. -/
structure Fd where
  c : Nat
  lo : Int
  hi : Int
def fds : Nat → List Fd
  | 1 => [⟨1, 0, 2⟩, ⟨2, 0, 9007199254740991⟩, ⟨3, 1, 65535⟩]
  | 2 => [⟨1, 0, 2⟩, ⟨2, 0, 9007199254740991⟩, ⟨3, 1, 65535⟩]
  | 3 => [⟨1, 0, 2⟩, ⟨3, 1, 2⟩]
  | 4 => [⟨3, 2400, 1099511627776⟩]
  | 5 => [⟨1, 0, 2⟩]
  | 6 => [⟨3, 1, 999⟩]
  | _ => []
def word : Nat → Bs
  | 1 => [97, 99, 107, 101, 100]
  | 2 => [108, 111, 115, 116]
  | 3 => [112, 114, 111, 98, 101]
  | 4 => [119, 105, 110, 100, 111, 119]
  | 5 => [99, 111, 108, 108, 97, 112, 115, 101]
  | 6 => [99, 108, 111, 115, 101, 100]
  | _ => []
def fdCells (f : Fd) : List Value := [.func (.func (93 + f.c)) #[] #[], .int .i64 f.lo, .int .i64 f.hi]
/-- The form of a kind, its fields' list at block b; the zero form. -/
def fv (k b : Nat) : Value := .agg #[.string ⟨(word k).toArray⟩, .slice (some ⟨b, 0, none⟩) (fds k).length (fds k).length]
def fv0 : Value := .agg #[.string ⟨#[]⟩, .slice none 0 0]
theorem fv_inj {i j b c : Nat} (hi : 1 ≤ i ∧ i ≤ 6) (hj : 1 ≤ j ∧ j ≤ 6) (h : fv i b = fv j c) : i = j ∧ b = c := by
  have hb : b = c := by simp [fv] at h; exact h.2.1
  refine ⟨?_, hb⟩
  obtain rfl | rfl | rfl | rfl | rfl | rfl : i = 1 ∨ i = 2 ∨ i = 3 ∨ i = 4 ∨ i = 5 ∨ i = 6 := by omega
  all_goals (obtain rfl | rfl | rfl | rfl | rfl | rfl : j = 1 ∨ j = 2 ∨ j = 3 ∨ j = 4 ∨ j = 5 ∨ j = 6 := by omega)
  all_goals (first | rfl | (exfalso; simp [fv, word] at h))
def fD (k b : Nat) : DataW Unit := .agg [.lit (.int .i64 (k : Int)), .lit (.int .i64 (b : Int))]
open Classical in
/-- How a form reads in the map: as its kind's number and its list's block. -/
noncomputable def Rf (v : Value) : Option (DataW Unit × List MemPlace) :=
  if h : ∃ p : Nat × Nat, (1 ≤ p.1 ∧ p.1 ≤ 6) ∧ v = fv p.1 p.2 then some (fD h.choose.1 h.choose.2, []) else if v = fv0 then some (.lit (.int .i64 0), []) else none
theorem Rf_val {k : Nat} (hk : 1 ≤ k ∧ k ≤ 6) (b : Nat) : Rf (fv k b) = some (fD k b, []) := by
  have h : ∃ p : Nat × Nat, (1 ≤ p.1 ∧ p.1 ≤ 6) ∧ fv k b = fv p.1 p.2 := ⟨(k, b), hk, rfl⟩
  unfold Rf
  rw [dif_pos h]
  have := fv_inj hk h.choose_spec.1 h.choose_spec.2
  rw [← this.1, ← this.2]
theorem Rf_zero : Rf fv0 = some (.lit (.int .i64 0), []) := by
  unfold Rf
  rw [dif_neg, if_pos rfl]
  rintro ⟨p, _, h⟩
  simp [fv0, fv] at h
theorem Rf_inv {v : Value} {y : DataW Unit × List MemPlace} (h : Rf v = some y) : (∃ k b, (1 ≤ k ∧ k ≤ 6) ∧ v = fv k b ∧ y = (fD k b, [])) ∨ (v = fv0 ∧ y = (.lit (.int .i64 0), [])) := by
  have h0 := h
  unfold Rf at h
  split at h
  · rename_i hx
    obtain ⟨⟨k, b⟩, hk, rfl⟩ := hx
    rw [Rf_val hk] at h0
    exact Or.inl ⟨k, b, hk, rfl, (Option.some.inj h0).symm⟩
  · split at h
    · rename_i e; subst e
      exact Or.inr ⟨rfl, (Option.some.inj h).symm⟩
    · cases h
/-- The map's datum. -/
def formD (B : Nat → Nat) : DataW Unit := .map [(.int .i64 1, fD 1 (B 1)), (.int .i64 2, fD 2 (B 2)), (.int .i64 3, fD 3 (B 3)), (.int .i64 4, fD 4 (B 4)), (.int .i64 5, fD 5 (B 5)), (.int .i64 6, fD 6 (B 6))]
structure FormsAt (w : World) (m : Nat) (B : Nat → Nat) : Prop where
  map : w.ownsMap Tryd.prog 3 Rf m 6 (formD B)
  blk : ∀ k, 1 ≤ k → k ≤ 6 → w.heap[B k]? = some (.cells ((fds k).flatMap fdCells).toArray 112 (0, 0))
theorem FormsAt.keep {w w' : World} {m : Nat} {B : Nat → Nat} (h : FormsAt w m B) (hb : Below w.heap.size w w') : FormsAt w' m B := by
  refine ⟨?_, fun k h1 h2 => keep_heap hb (h.blk k h1 h2)⟩
  obtain ⟨es, c, hm, r⟩ := h.map
  exact ⟨es, c, keep_heap hb hm, r⟩
theorem formD_at (B : Nat → Nat) (z : Int) (zd : DataW Unit) : (formD B).atKey (.int .i64 z) zd = if 1 ≤ z ∧ z ≤ 6 then fD z.toNat (B z.toNat) else zd := by
  by_cases h : 1 ≤ z ∧ z ≤ 6
  · rw [if_pos h]
    obtain rfl | rfl | rfl | rfl | rfl | rfl : z = 1 ∨ z = 2 ∨ z = 3 ∨ z = 4 ∨ z = 5 ∨ z = 6 := by omega
    all_goals rfl
  · rw [if_neg h]
    have h1 : (1 : Int) ≠ z := by omega
    have h2 : (2 : Int) ≠ z := by omega
    have h3 : (3 : Int) ≠ z := by omega
    have h4 : (4 : Int) ≠ z := by omega
    have h5 : (5 : Int) ≠ z := by omega
    have h6 : (6 : Int) ≠ z := by omega
    simp [formD, DataW.atKey, Lit.sameKey, h1, h2, h3, h4, h5, h6]
theorem formD_has (B : Nat → Nat) (z : Int) : has (formD B) (.int .i64 z) = decide (1 ≤ z ∧ z ≤ 6) := by
  by_cases h : 1 ≤ z ∧ z ≤ 6
  · obtain rfl | rfl | rfl | rfl | rfl | rfl : z = 1 ∨ z = 2 ∨ z = 3 ∨ z = 4 ∨ z = 5 ∨ z = 6 := by omega
    all_goals rfl
  · have h1 : (1 : Int) ≠ z := by omega
    have h2 : (2 : Int) ≠ z := by omega
    have h3 : (3 : Int) ≠ z := by omega
    have h4 : (4 : Int) ≠ z := by omega
    have h5 : (5 : Int) ≠ z := by omega
    have h6 : (6 : Int) ≠ z := by omega
    rw [decide_eq_false h]
    simp [formD, has, Lit.sameKey, h1, h2, h3, h4, h5, h6]
theorem law3 : Keyed Tryd.prog 3 := int_keyed Tryd.underlying3
theorem zero106 (w : World) : (zeroValue 106).run Tryd.prog w = .ok fv0 w := by kernel_rfl
theorem key3 (z : Int) (hz : -9223372036854775808 ≤ z ∧ z ≤ 9223372036854775807) : keyOf Tryd.prog 3 (.int .i64 z) = some (.int .i64 z) := by
  refine keyOf_int_mk Tryd.underlying3 ?_
  have hmin : IntKind.i64.min = -9223372036854775808 := rfl
  have hmax : IntKind.i64.max = 9223372036854775807 := rfl
  simp only [Lit.wf, Bool.and_eq_true, decide_eq_true_eq]
  omega
theorem ecell {w : World} {b i : Nat} {cs : Array Value} {t : TypeId} {f : Nat × Nat} {v : Value} (h : w.heap[b]? = some (.cells cs t f)) (hi : cs[i]? = some v) : w.cell? ⟨b, i, none⟩ = some v := by simp only [World.cell?, h]; exact hi
/-- 'insert' into a map that the call itself has made. -/
theorem wpList_insert_own {H : Type} {P : Program} (w : World) {ops : Array Oper} {rest : List Oper} {o : Oper} {a : Act} {Q : Exit → Act → World → Prop}
    (hg : o.guard = none) (m x v : Operand) (t : TypeId) (hop : o.op = Op.insert t m x v)
    (k e : TypeId) (K : Keyed P k) (ht : P.underlying t = some (.map k e)) (R : Value → Option (DataW H × List MemPlace)) (b n : Nat) (D : DataW H)
    (hm : a.eval m = .map (some b)) (hown : w.ownsMap P k R b n D) (hn : n < maxLen) (key val : Value) (kl : Lit) (hx : a.eval x = key) (hv : a.eval v = val) (hkey : keyOf P k key = some kl)
    (d : DataW H) (ps : List MemPlace) (hval : R val = some (d, ps))
    (hK : ∀ w', w'.ownsMap P k R b (n + 1) (D.put kl d) → w.grownBy w' (some b) → wpList P ops Q rest (a.put o.dst undef) w') :
    wpList P ops Q (o :: rest) a w := by
  refine wpList_plain hg fun K' hK' => ?_
  obtain ⟨w', hrun, r1, r2⟩ := hown.update K ht hn hkey hval
  unfold Oper.wp
  simp [execOp, hop, hm, hx, hv, hrun, Result.andThen]
  exact hK' _ _ (hK w' r1 r2)
/-- What stays while the table is made: the three fields' blocks, the map. -/
structure Fm (w wr : World) (p1 p2 p3 m n : Nat) (D : DataW Unit) : Prop where
  one : wr.heap[p1]? = some (.cells #[.func (.func 94) #[] #[], .int .i64 0, .int .i64 2] 112 (0, 0))
  two : wr.heap[p2]? = some (.cells #[.func (.func 95) #[] #[], .int .i64 0, .int .i64 9007199254740991] 112 (0, 0))
  thr : wr.heap[p3]? = some (.cells #[.func (.func 96) #[] #[], .int .i64 1, .int .i64 65535] 112 (0, 0))
  own : wr.ownsMap Tryd.prog 3 Rf m n D
  bel : Below w.heap.size w wr
  low : w.heap.size ≤ m
theorem Fm.alloc {w wr : World} {p1 p2 p3 m n : Nat} {D : DataW Unit} (h : Fm w wr p1 p2 p3 m n D) (o : Obj) : Fm w (wr.alloc o) p1 p2 p3 m n D :=
  ⟨keep_heap (below_alloc1 _ _) h.one, keep_heap (below_alloc1 _ _) h.two, keep_heap (below_alloc1 _ _) h.thr, h.own.alloc o, below_after h.bel (below_alloc1 _ _), h.low⟩
theorem ins_cells {w w' : World} {m n k : Nat} {D : DataW Unit} {cs : Array Value} {t : TypeId} {fz : Nat × Nat} (hm : w.ownsMap Tryd.prog 3 Rf m n D) (hg : w.grownBy w' (some m)) (hk : w.heap[k]? = some (.cells cs t fz)) : w'.heap[k]? = some (.cells cs t fz) := by
  obtain ⟨es, c, hb, _⟩ := hm
  have hne : k ≠ m := by rintro rfl; rw [hk] at hb; cases hb
  exact (hg.block k (lt_of_heap hk) (by simpa using hne)).trans hk
theorem Fm.ins {w wr w' : World} {p1 p2 p3 m n n' : Nat} {D D' : DataW Unit} (h : Fm w wr p1 p2 p3 m n D) (ho : w'.ownsMap Tryd.prog 3 Rf m n' D') (hg : wr.grownBy w' (some m)) : Fm w w' p1 p2 p3 m n' D' := by
  refine ⟨ins_cells h.own hg h.one, ins_cells h.own hg h.two, ins_cells h.own hg h.thr, ho, ?_, h.low⟩
  obtain ⟨h1, h2, h3, h4, h5⟩ := h.bel
  refine ⟨hg.os.trans h1, hg.tape.trans h2, hg.output.trans h3, Nat.le_trans h4 hg.size, fun j hj => ?_⟩
  rw [← h5 j hj]
  exact hg.block j (Nat.lt_of_lt_of_le hj h4) (by have := h.low; simp; omega)
set_option maxRecDepth 100000 in
set_option maxHeartbeats 4000000 in
theorem forms_any (w : World) : Calls Tryd.prog 60 #[] w fun e w' => ∃ m B, e = .returned (.map (some m)) ∧ FormsAt w' m B ∧ Below w.heap.size w w' := by
  have s110 : ∀ w, (Go.sizeOf 110).run Tryd.prog w = .ok 1 w := fun _ => by kernel_rfl
  have hmm := @run_makeMap Tryd.prog
  go_enter Tryd.func60, Tryd.ntmps60
  go_upto_region 4 with (fail)
  obtain ⟨p1, e1⟩ : ∃ p, p = w.heap.size := ⟨_, rfl⟩
  obtain ⟨p2, e2⟩ : ∃ p, p = w.heap.size + 1 := ⟨_, rfl⟩
  obtain ⟨p3, e3⟩ : ∃ p, p = w.heap.size + 1 + 1 := ⟨_, rfl⟩
  obtain ⟨W0, hW0⟩ : ∃ W, W = (((w.alloc (.cells #[.func (.func 94) #[] #[], .int .i64 0, .int .i64 2] 112)).alloc (.cells #[.func (.func 95) #[] #[], .int .i64 0, .int .i64 9007199254740991] 112)).alloc (.cells #[.func (.func 96) #[] #[], .int .i64 1, .int .i64 65535] 112)) := ⟨_, rfl⟩
  have h0 : Fm w (W0.alloc (.map #[] 0)) p1 p2 p3 W0.heap.size 0 (.map []) := by
    rw [hW0]
    refine ⟨?_, ?_, ?_, ?_, ?_, ?_⟩
    · rw [e1]; exact keep_heap (below_alloc1 _ _) (keep_heap (below_alloc1 _ _) (keep_heap (below_alloc1 _ _) (heap_at _ rfl)))
    · rw [e2]; exact keep_heap (below_alloc1 _ _) (keep_heap (below_alloc1 _ _) (heap_at _ (by simp)))
    · rw [e3]; exact keep_heap (below_alloc1 _ _) (heap_at _ (by simp))
    · exact World.ownsMap_made _ Tryd.prog 3 Rf
    · exact below_after (below_after (below_after (below_alloc1 _ _) (below_alloc1 _ _)) (below_alloc1 _ _)) (below_alloc1 _ _)
    · simp; omega
  rw [← hW0, ← e3, ← e2, ← e1]
  clear hW0 e1 e2 e3
  have c00 := ecell (i := 0) h0.one rfl
  have c01 := ecell (i := 1) h0.one rfl
  have c02 := ecell (i := 2) h0.one rfl
  have c10 := ecell (i := 0) h0.two rfl
  have c11 := ecell (i := 1) h0.two rfl
  have c12 := ecell (i := 2) h0.two rfl
  have c20 := ecell (i := 0) h0.thr rfl
  have c21 := ecell (i := 1) h0.thr rfl
  have c22 := ecell (i := 2) h0.thr rfl
  go_wp2_with (first | (refine wpList_insert_own _ rfl _ _ _ 108 rfl 3 106 law3 Tryd.underlying108 Rf W0.heap.size 0 _ rfl (h0.alloc _).own (by decide) (.int .i64 1) (fv 1 _) (.int .i64 1) rfl rfl (key3 1 (by decide)) _ [] (Rf_val (by decide) _) ?_; intro w1 o1 g1; have h1 := (h0.alloc _).ins o1 g1; have b1 : w1.heap[(W0.heap.size + 1)]? = some (.cells #[.func (.func 94) #[] #[], .int .i64 0, .int .i64 2, .func (.func 95) #[] #[], .int .i64 0, .int .i64 9007199254740991, .func (.func 96) #[] #[], .int .i64 1, .int .i64 65535] 112 (0, 0)) := ins_cells (h0.alloc _).own g1 (heap_at _ (by simp)); have c00 := ecell (i := 0) h1.one rfl; have c01 := ecell (i := 1) h1.one rfl; have c02 := ecell (i := 2) h1.one rfl; have c10 := ecell (i := 0) h1.two rfl; have c11 := ecell (i := 1) h1.two rfl; have c12 := ecell (i := 2) h1.two rfl; have c20 := ecell (i := 0) h1.thr rfl; have c21 := ecell (i := 1) h1.thr rfl; have c22 := ecell (i := 2) h1.thr rfl; clear o1 g1) | (refine wpList_insert_own _ rfl _ _ _ 108 rfl 3 106 law3 Tryd.underlying108 Rf W0.heap.size 1 _ rfl (h1.alloc _).own (by decide) (.int .i64 2) (fv 2 _) (.int .i64 2) rfl rfl (key3 2 (by decide)) _ [] (Rf_val (by decide) _) ?_; intro w2 o2 g2; have h2 := (h1.alloc _).ins o2 g2; have b2 : w2.heap[w1.heap.size]? = some (.cells #[.func (.func 94) #[] #[], .int .i64 0, .int .i64 2, .func (.func 95) #[] #[], .int .i64 0, .int .i64 9007199254740991, .func (.func 96) #[] #[], .int .i64 1, .int .i64 65535] 112 (0, 0)) := ins_cells (h1.alloc _).own g2 (heap_at _ (by simp)); have b1 := ins_cells (h1.alloc _).own g2 (keep_heap (below_alloc1 _ _) b1); have c00 := ecell (i := 0) h2.one rfl; have c01 := ecell (i := 1) h2.one rfl; have c02 := ecell (i := 2) h2.one rfl; have c10 := ecell (i := 0) h2.two rfl; have c11 := ecell (i := 1) h2.two rfl; have c12 := ecell (i := 2) h2.two rfl; have c20 := ecell (i := 0) h2.thr rfl; have c21 := ecell (i := 1) h2.thr rfl; have c22 := ecell (i := 2) h2.thr rfl; clear o2 g2) | (refine wpList_insert_own _ rfl _ _ _ 108 rfl 3 106 law3 Tryd.underlying108 Rf W0.heap.size 2 _ rfl (h2.alloc _).own (by decide) (.int .i64 3) (fv 3 _) (.int .i64 3) rfl rfl (key3 3 (by decide)) _ [] (Rf_val (by decide) _) ?_; intro w3 o3 g3; have h3 := (h2.alloc _).ins o3 g3; have b3 : w3.heap[w2.heap.size]? = some (.cells #[.func (.func 94) #[] #[], .int .i64 0, .int .i64 2, .func (.func 96) #[] #[], .int .i64 1, .int .i64 2] 112 (0, 0)) := ins_cells (h2.alloc _).own g3 (heap_at _ (by simp)); have b1 := ins_cells (h2.alloc _).own g3 (keep_heap (below_alloc1 _ _) b1); have b2 := ins_cells (h2.alloc _).own g3 (keep_heap (below_alloc1 _ _) b2); have c00 := ecell (i := 0) h3.one rfl; have c01 := ecell (i := 1) h3.one rfl; have c02 := ecell (i := 2) h3.one rfl; have c10 := ecell (i := 0) h3.two rfl; have c11 := ecell (i := 1) h3.two rfl; have c12 := ecell (i := 2) h3.two rfl; have c20 := ecell (i := 0) h3.thr rfl; have c21 := ecell (i := 1) h3.thr rfl; have c22 := ecell (i := 2) h3.thr rfl; clear o3 g3) | (refine wpList_insert_own _ rfl _ _ _ 108 rfl 3 106 law3 Tryd.underlying108 Rf W0.heap.size 3 _ rfl (h3.alloc _).own (by decide) (.int .i64 4) (fv 4 _) (.int .i64 4) rfl rfl (key3 4 (by decide)) _ [] (Rf_val (by decide) _) ?_; intro w4 o4 g4; have h4 := (h3.alloc _).ins o4 g4; have b4 : w4.heap[w3.heap.size]? = some (.cells #[.func (.func 96) #[] #[], .int .i64 2400, .int .i64 1099511627776] 112 (0, 0)) := ins_cells (h3.alloc _).own g4 (heap_at _ (by simp)); have b1 := ins_cells (h3.alloc _).own g4 (keep_heap (below_alloc1 _ _) b1); have b2 := ins_cells (h3.alloc _).own g4 (keep_heap (below_alloc1 _ _) b2); have b3 := ins_cells (h3.alloc _).own g4 (keep_heap (below_alloc1 _ _) b3); have c00 := ecell (i := 0) h4.one rfl; have c01 := ecell (i := 1) h4.one rfl; have c02 := ecell (i := 2) h4.one rfl; have c10 := ecell (i := 0) h4.two rfl; have c11 := ecell (i := 1) h4.two rfl; have c12 := ecell (i := 2) h4.two rfl; have c20 := ecell (i := 0) h4.thr rfl; have c21 := ecell (i := 1) h4.thr rfl; have c22 := ecell (i := 2) h4.thr rfl; clear o4 g4) | (refine wpList_insert_own _ rfl _ _ _ 108 rfl 3 106 law3 Tryd.underlying108 Rf W0.heap.size 4 _ rfl (h4.alloc _).own (by decide) (.int .i64 5) (fv 5 _) (.int .i64 5) rfl rfl (key3 5 (by decide)) _ [] (Rf_val (by decide) _) ?_; intro w5 o5 g5; have h5 := (h4.alloc _).ins o5 g5; have b5 : w5.heap[w4.heap.size]? = some (.cells #[.func (.func 94) #[] #[], .int .i64 0, .int .i64 2] 112 (0, 0)) := ins_cells (h4.alloc _).own g5 (heap_at _ (by simp)); have b1 := ins_cells (h4.alloc _).own g5 (keep_heap (below_alloc1 _ _) b1); have b2 := ins_cells (h4.alloc _).own g5 (keep_heap (below_alloc1 _ _) b2); have b3 := ins_cells (h4.alloc _).own g5 (keep_heap (below_alloc1 _ _) b3); have b4 := ins_cells (h4.alloc _).own g5 (keep_heap (below_alloc1 _ _) b4); have c00 := ecell (i := 0) h5.one rfl; have c01 := ecell (i := 1) h5.one rfl; have c02 := ecell (i := 2) h5.one rfl; have c10 := ecell (i := 0) h5.two rfl; have c11 := ecell (i := 1) h5.two rfl; have c12 := ecell (i := 2) h5.two rfl; have c20 := ecell (i := 0) h5.thr rfl; have c21 := ecell (i := 1) h5.thr rfl; have c22 := ecell (i := 2) h5.thr rfl; clear o5 g5) | (refine wpList_insert_own _ rfl _ _ _ 108 rfl 3 106 law3 Tryd.underlying108 Rf W0.heap.size 5 _ rfl (h5.alloc _).own (by decide) (.int .i64 6) (fv 6 _) (.int .i64 6) rfl rfl (key3 6 (by decide)) _ [] (Rf_val (by decide) _) ?_; intro w6 o6 g6; have h6 := (h5.alloc _).ins o6 g6; have b6 : w6.heap[w5.heap.size]? = some (.cells #[.func (.func 96) #[] #[], .int .i64 1, .int .i64 999] 112 (0, 0)) := ins_cells (h5.alloc _).own g6 (heap_at _ (by simp)); have b1 := ins_cells (h5.alloc _).own g6 (keep_heap (below_alloc1 _ _) b1); have b2 := ins_cells (h5.alloc _).own g6 (keep_heap (below_alloc1 _ _) b2); have b3 := ins_cells (h5.alloc _).own g6 (keep_heap (below_alloc1 _ _) b3); have b4 := ins_cells (h5.alloc _).own g6 (keep_heap (below_alloc1 _ _) b4); have b5 := ins_cells (h5.alloc _).own g6 (keep_heap (below_alloc1 _ _) b5); have c00 := ecell (i := 0) h6.one rfl; have c01 := ecell (i := 1) h6.one rfl; have c02 := ecell (i := 2) h6.one rfl; have c10 := ecell (i := 0) h6.two rfl; have c11 := ecell (i := 1) h6.two rfl; have c12 := ecell (i := 2) h6.two rfl; have c20 := ecell (i := 0) h6.thr rfl; have c21 := ecell (i := 1) h6.thr rfl; have c22 := ecell (i := 2) h6.thr rfl; clear o6 g6) | fail)
  go_ret
  refine ⟨W0.heap.size, fun k => if k = 1 then W0.heap.size + 1 else if k = 2 then w1.heap.size else if k = 3 then w2.heap.size else if k = 4 then w3.heap.size else if k = 5 then w4.heap.size else w5.heap.size, rfl, ⟨h6.own, fun k k1 k2 => ?_⟩, h6.bel⟩
  obtain rfl | rfl | rfl | rfl | rfl | rfl : k = 1 ∨ k = 2 ∨ k = 3 ∨ k = 4 ∨ k = 5 ∨ k = 6 := by omega
  · exact b1
  · exact b2
  · exact b3
  · exact b4
  · exact b5
  · exact b6
end Go.Proofs.YtjhkgoppopfoaaaDoor
