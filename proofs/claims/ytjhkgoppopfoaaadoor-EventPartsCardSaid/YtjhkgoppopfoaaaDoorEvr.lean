/-
  The walk of event.read.
-/
import Derived.Test.YtjhkgoppopfoaaaDoorEvp
import Derived.Test.YtjhkgoppopfoaaaDoorParse
import Derived.WalkLawsBesides
import Derived.BigQuiet
namespace Go.Proofs.YtjhkgoppopfoaaaDoor
open Go.RowKit Go.Lib Go.Maps
set_option linter.unusedVariables false
set_option linter.unusedSimpArgs false

theorem split_by (c : UInt8) (s : ByteArray) (l : List Bs) (w : World) (g : Gd w) (hs : s.size < 4294967281) (hl : spl c s.data.toList = l) :
    Calls Tryd.prog 20 #[.string s, .string ⟨#[c]⟩] w fun e w' => ∃ A, e = .returned (.slice (some ⟨A, 0, none⟩) l.length l.length) ∧ Below w.heap.size w w' ∧ ∃ ls : List ByteArray, ls.map (·.data.toList) = l ∧ w'.heap[A]? = some (.cells (ls.map Value.string).toArray 9 (0, 0)) := by
  obtain ⟨m, hm⟩ := g.mx
  refine (Tryd.strings_Split s ⟨#[c]⟩ m w hs hm (show 1 ≤ 1 from Nat.le_refl 1)).mono ?_
  rintro e w' ⟨rfl, rfl⟩
  have h1 := splitB_spl c s
  rw [hl] at h1
  have h2 : countB s ⟨#[c]⟩ + 1 = l.length := by
    rw [← h1, List.length_map, splitB_all ⟨#[c]⟩ (show 1 ≤ 1 from Nat.le_refl 1) 0 _ s rfl]
  rw [h2]
  exact ⟨w.heap.size, rfl, below_alloc1 _ _, _, h1, heap_at _ rfl⟩
def brk (line er : Int) : Value := .iface 95 (.agg #[.int .i64 line, .int .i64 er])
def ReadEnd (ws : List Bs) (line : Int) (x : Ending) : Prop := (∃ e, readW ws = some e ∧ x = .returned e.val) ∨ (readW ws = none ∧ x = .panicked [{ v := brk line 4, recovered := false }])
/-- What stays through the walk: the words' block A, the forms' lists. -/
structure RdAt (w wr : World) (q A : Nat) (B : Nat → Nat) (ls : List ByteArray) (e : Ev) : Prop where
  ev : EvAt wr q e
  wds : wr.heap[A]? = some (.cells (ls.map Value.string).toArray 9 (0, 0))
  fld : ∀ k, 1 ≤ k → k ≤ 6 → wr.heap[B k]? = some (.cells ((fds k).flatMap fdCells).toArray 112 (0, 0))
  bel : Below w.heap.size w wr
theorem RdAt.keep {w wr w' : World} {q A : Nat} {B : Nat → Nat} {ls : List ByteArray} {e : Ev} (h : RdAt w wr q A B ls e) (hb : Below wr.heap.size wr w') : RdAt w w' q A B ls e :=
  ⟨h.ev.keep hb, keep_heap hb h.wds, fun k h1 h2 => keep_heap hb (h.fld k h1 h2), below_after h.bel hb⟩
/-- Where the loop over the table stands: no kind fits among those that came, or the one that fits has been read. -/
def RdSt (ws : List Bs) (left : Lit → Bool) (e : Ev) : Prop := (e = Ev.zero ∧ ∀ k, fits ws k → left (.int .i64 (k : Int)) = true) ∨ ∃ k, fits ws k ∧ left (.int .i64 (k : Int)) = false ∧ fillE (fds k) ws.tail ⟨(k : Int), 0, 0, 0⟩ = some e
def RdRel (w : World) (q A : Nat) (B : Nat → Nat) (ls : List ByteArray) (ws : List Bs) (m r : Nat) (wr : World) : Prop := ∃ left cnt e, wr.ranges Tryd.prog 3 Rf m r 6 (formD B) left cnt ∧ RdAt w wr q A B ls e ∧ e.wf ∧ RdSt ws left e
theorem below_grown {a c : World} {row : Option Nat} (h : a.grownBy c row) (hr : ∀ k, row = some k → a.heap.size ≤ k) : Below a.heap.size a c :=
  ⟨h.os, h.tape, h.output, h.size, fun j hj => h.block j hj (fun e => by have := hr j e.symm; omega)⟩
theorem below_grownB {w a c : World} {r : Nat} (hw : Below w.heap.size w a) (h : a.grownBy c (some r)) (hr : w.heap.size ≤ r) : Below w.heap.size w c := by
  refine ⟨h.os.trans hw.os, h.tape.trans hw.tape, h.output.trans hw.output, Nat.le_trans hw.size h.size, fun j hj => ?_⟩
  rw [h.block j (Nat.lt_of_lt_of_le hj hw.size) (by simp; omega)]
  exact hw.block j hj
theorem RdAt.step {w wr w' : World} {q A r : Nat} {B : Nat → Nat} {ls : List ByteArray} {e : Ev} (h : RdAt w wr q A B ls e) (hg : wr.grownBy w' (some r)) (hr : w.heap.size ≤ r) (hit : ∀ cs t f, wr.heap[r]? ≠ some (.cells cs t f)) : RdAt w w' q A B ls e := by
  have one : ∀ {k : Nat} {cs : Array Value} {t : TypeId} {f : Nat × Nat}, wr.heap[k]? = some (.cells cs t f) → w'.heap[k]? = some (.cells cs t f) := fun {k cs t f} hk => by
    rw [hg.block k (lt_of_heap hk) (by intro e; injection e with e; subst e; exact hit _ _ _ hk)]
    exact hk
  exact ⟨one h.ev, one h.wds, fun k h1 h2 => one (h.fld k h1 h2), below_grownB h.bel hg hr⟩
theorem ranges_iter {wr : World} {m r n cnt : Nat} {D : DataW Unit} {left : Lit → Bool} (h : wr.ranges Tryd.prog 3 Rf m r n D left cnt) : ∀ cs t f, wr.heap[r]? ≠ some (.cells cs t f) := by
  obtain ⟨es, clock, since, seen, c0, _, _, _, _, hr, _⟩ := h
  intro cs t f hx
  rw [hr] at hx
  cases hx
theorem zero_wf : Ev.zero.wf := by intro c; unfold Ev.at Ev.zero; split <;> simp
theorem zero_no : ¬ Ev.zero.ok := fun h => by have := h.1.1; simp [Ev.zero] at this
/-- At the loop's end: what the words are. -/
theorem rd_end {ws : List Bs} {left : Lit → Bool} {e : Ev} (h : RdSt ws left e) (hl : ∀ kl, left kl = false) : (e.ok → readW ws = some e) ∧ (¬ e.ok → readW ws = none) := by
  rcases h with ⟨rfl, hn⟩ | ⟨k, hk, _, hf⟩
  · refine ⟨fun h => absurd h zero_no, fun _ => readW_none fun e ⟨k, hk, _⟩ => ?_⟩
    have := hn k hk
    rw [hl] at this; cases this
  · refine ⟨fun hok => readW_some ⟨k, hk, hf, hok⟩, fun hno => readW_none fun e' ⟨k', hk', hf', hok'⟩ => ?_⟩
    obtain rfl := fits_one hk hk'
    rw [hf] at hf'
    exact hno (Option.some.inj hf' ▸ hok')
theorem eset_id {w : World} {b i : Nat} {cs : Array Value} {t : TypeId} {fz : Nat × Nat} {v : Value} (h : w.heap[b]? = some (.cells cs t fz)) (hi : cs[i]? = some v) : w.setCell ⟨b, i, none⟩ v = w := by
  obtain ⟨hb, he⟩ := Array.getElem?_eq_some_iff.1 h
  obtain ⟨hj, hv⟩ := Array.getElem?_eq_some_iff.1 hi
  have key : (w.setCell ⟨b, i, none⟩ v).heap = w.heap := by
    unfold World.setCell
    apply Array.ext
    · simp
    · intro j h1 h2
      rw [Array.getElem_modify]
      split
      · rename_i e
        subst e
        rw [he]
        simp only [Option.isSome_none, Bool.false_eq_true, if_false]
        congr 1
        apply Array.ext
        · simp
        · intro q q1 q2
          rw [Array.getElem_setIfInBounds]
          split
          · rename_i e2; subst e2; exact hv.symm
          · rfl
      · rfl
  show ({ w with heap := (w.setCell ⟨b, i, none⟩ v).heap } : World) = w
  rw [key]
theorem ent_form {B : Nat → Nat} {x : Int} {v : Value} {y : DataW Unit × List MemPlace} (hv : Rf v = some y) (hat : ∀ zd, (formD B).atKey (.int .i64 x) zd = y.1) : ∃ k : Nat, (1 ≤ k ∧ k ≤ 6) ∧ x = (k : Int) ∧ v = fv k (B k) := by
  have hx : 1 ≤ x ∧ x ≤ 6 := by
    by_cases h : 1 ≤ x ∧ x ≤ 6
    · exact h
    · exfalso
      have h0 := hat (.lit (.bool true))
      have h1 := hat (.lit (.bool false))
      rw [formD_at, if_neg h] at h0 h1
      rw [← h1] at h0
      cases h0
  have h0 := hat (.lit (.bool true))
  rw [formD_at, if_pos hx] at h0
  rcases Rf_inv hv with ⟨k, b, hk, rfl, rfl⟩ | ⟨rfl, rfl⟩
  · simp only [fD, DataW.agg.injEq, List.cons.injEq, DataW.lit.injEq, Lit.int.injEq, true_and, and_true] at h0
    have e1 : x.toNat = k := by omega
    have e2 : B x.toNat = b := by omega
    exact ⟨k, hk, by omega, by rw [← e2, e1]⟩
  · simp [fD] at h0
theorem grown_of {w w' : World} (h : Below w.heap.size w w') : w.grownBy w' none := ⟨h.os, h.tape, h.output, h.size, fun j hj _ => h.block j hj⟩
/-- A kind that does not fit has come. -/
theorem st_skip {ws : List Bs} {left : Lit → Bool} {e : Ev} {k : Nat} (h : RdSt ws left e) (hn : ¬ fits ws k) : RdSt ws (fun z => left z && !z.sameKey (.int .i64 (k : Int))) e := by
  rcases h with ⟨rfl, h⟩ | ⟨j, hj, hl, hf⟩
  · refine Or.inl ⟨rfl, fun j hj => ?_⟩
    have hne : j ≠ k := fun e => hn (e ▸ hj)
    have : Lit.sameKey (.int .i64 (j : Int)) (.int .i64 (k : Int)) = false := by
      simp [Lit.sameKey]; omega
    simp [h j hj, this]
  · exact Or.inr ⟨j, hj, by simp [hl], hf⟩
theorem RdAt.set {w wr : World} {q A : Nat} {B : Nat → Nat} {ls : List ByteArray} {e e' : Ev} (h : RdAt w wr q A B ls e) (hq : w.heap.size ≤ q) (i : Nat) (v : Value) (he : e.cells.setIfInBounds i v = e'.cells) : RdAt w (wr.setCell ⟨q, i, none⟩ v) q A B ls e' := by
  refine ⟨?_, oblk h.ev h.wds (by decide), fun k h1 h2 => oblk h.ev (h.fld k h1 h2) (by decide), h.bel.setCell (p := ⟨q, i, none⟩) hq v⟩
  have := fblk i h.ev v
  rw [he] at this
  exact this
theorem ranges_set {wr : World} {m r n cnt q i : Nat} {D : DataW Unit} {left : Lit → Bool} {cs : Array Value} {t : TypeId} {f : Nat × Nat} (h : wr.ranges Tryd.prog 3 Rf m r n D left cnt) (hq : wr.heap[q]? = some (.cells cs t f)) (v : Value) : (wr.setCell ⟨q, i, none⟩ v).ranges Tryd.prog 3 Rf m r n D left cnt := by
  have hr : r ≠ q := by rintro rfl; exact ranges_iter h _ _ _ hq
  have hm : m ≠ q := by
    rintro rfl
    obtain ⟨es, c, hb, _⟩ := h.owns
    rw [hq] at hb; cases hb
  refine h.kept (row := some q) ⟨rfl, rfl, rfl, by simp [World.setCell], fun j hj hne => ?_⟩ (by simpa using hm) (by simpa using hr)
  have hne : q ≠ j := fun e => hne (by rw [e])
  simp [World.setCell, Array.getElem?_modify, hne]
def RiRel (w : World) (q A : Nat) (B : Nat → Nat) (ls : List ByteArray) (ws : List Bs) (m r k cnt : Nat) (left : Lit → Bool) (i : Value) (wr : World) : Prop := ∃ (j : Nat) (e : Ev), i = .int .i64 (j : Int) ∧ j ≤ (fds k).length ∧ wr.ranges Tryd.prog 3 Rf m r 6 (formD B) left cnt ∧ RdAt w wr q A B ls e ∧ e.wf ∧ fillE ((fds k).take j) (ws.tail.take j) ⟨(k : Int), 0, 0, 0⟩ = some e
theorem setF_wf {e : Ev} (h : e.wf) (c : Nat) {v : Int} (hv : -9223372036854775808 ≤ v ∧ v ≤ 9223372036854775807) : (setF e c v).wf := by
  have h0 := h 0
  have h1 := h 1
  have h2 := h 2
  have h3 := h 3
  simp only [Ev.at] at h0 h1 h2 h3
  intro d
  unfold setF Ev.at
  split <;> split <;> simp only <;> assumption
set_option maxRecDepth 100000 in
set_option maxHeartbeats 8000000 in
theorem eread_any (s : ByteArray) (line : Int) (w : World) (g : Gd w) (hs : s.size ≤ 1048576) :
    Calls Tryd.prog 55 #[.string s, .int .i64 line] w fun x w' => ReadEnd (spl 32 s.data.toList) line x ∧ Below w.heap.size w w' := by
  obtain ⟨ws, hws⟩ : ∃ ws, spl 32 s.data.toList = ws := ⟨_, rfl⟩
  have hb0 := below_alloc1 w (.cells Ev.zero.cells 52)
  have hq : EvAt (w.alloc (.cells Ev.zero.cells 52)) w.heap.size Ev.zero := heap_at _ rfl
  simp only [Ev.cells, Ev.zero] at hb0 hq
  rw [hws]
  go_enter Tryd.func55, Tryd.ntmps55
  go_wp2_with fail
  refine (split_by 32 s ws _ (g.keep hb0) (by omega) hws).mono ?_; rintro x w1 ⟨A, rfl, hb1, ls, hls, hA⟩
  have hq1 := hq.keep hb1
  have bel1 := below_after hb0 hb1
  obtain ⟨q, hqe⟩ : ∃ q, q = w.heap.size := ⟨_, rfl⟩
  have hqw : w.heap.size ≤ q := Nat.le_of_eq hqe.symm
  rw [← hqe] at hq1 ⊢
  clear hqe hq hb0 hb1
  go_upto_region 2 with (fail)
  go_wp2_with (first
    | (go_at_call 60; refine (forms_any _).mono ?_; rintro x w2 ⟨m, B, rfl, hF, hb2⟩)
    | (at_range; refine wpList_range_own _ rfl _ 108 rfl 3 106 law3 Tryd.underlying108 _ m 6 _ rfl hF.map ?_; intro w3 hrg0 hg0 hs0)
    | fail)
  have hq3 := (hq1.keep hb2).keep (below_grown hg0 (fun _ h => by cases h))
  have hF3 : ∀ k, 1 ≤ k → k ≤ 6 → w3.heap[B k]? = some (.cells ((fds k).flatMap fdCells).toArray 112 (0, 0)) := fun k h1 h2 => keep_heap (below_grown hg0 (fun _ h => by cases h)) (hF.blk k h1 h2)
  have bel3 := below_after (below_after bel1 hb2) (below_grown hg0 (fun _ h => by cases h))
  have hA3 := keep_heap (below_grown hg0 (fun _ h => by cases h)) (keep_heap hb2 hA)
  have hR : RdAt w w3 q A B ls Ev.zero := ⟨hq3, hA3, hF3, bel3⟩
  obtain ⟨r, hr⟩ : ∃ r, r = w2.heap.size := ⟨_, rfl⟩
  have hrw : w.heap.size ≤ r := by rw [hr]; exact (below_after bel1 hb2).size
  rw [← hr] at hrg0 ⊢
  clear hr hq3 hF3 bel3 hA3 hq1 hA hb2 bel1 hg0 hs0 hF
  go_frame
  go_loopw [6] (fun _ wr => RdRel w q A B ls ws m r wr) (fun _ wr => wr.rangeLeft m r)
  case atStart => exact ⟨_, _, Ev.zero, hrg0, hR, zero_wf, Or.inl ⟨rfl, fun k hk => by rw [formD_has]; have := hk.1; simp; omega⟩⟩
  case round =>
    clear hrg0 hR
    obtain ⟨left, cnt, e, hrg, hR, hwf, hst⟩ := hrel
    go_wp2_with (first
      | (at_next; refine wpList_next_ranges _ rfl _ rfl 3 law3 Rf (Value.int .i64) id (fun key kl hkey => by obtain ⟨x, rfl, _⟩ := Maps.keyOf_int_inv Tryd.underlying3 hkey; exact ⟨x, rfl⟩) (fun v y _ => ⟨v, rfl⟩) m r 6 _ _ _ rfl hrg ?_ ?_)
      | fail)
    · intro _ hl0
      obtain ⟨hE1, hE2⟩ := rd_end hst hl0
      have c0 := hR.ev.c0
      have c1 := hR.ev.c1
      have c2 := hR.ev.c2
      have c3 := hR.ev.c3
      have HW := hide hwf
      by_cases hok : e.ok
      · have HE := hide (err_yes hok)
        have HX := hide (hE1 hok)
        clear hE1 hE2
        go_wp2_with fail
        refine (echeck_any e _ HW.out).mono ?_; rintro x w4 ⟨rfl, hb4⟩
        have hR4 := hR.keep hb4
        have d0 := hR4.ev.c0
        have d1 := hR4.ev.c1
        have d2 := hR4.ev.c2
        have d3 := hR4.ev.c3
        have f0 := efree hR4.ev 0
        have f1 := efree hR4.ev 1
        have f2 := efree hR4.ev 2
        have f3 := efree hR4.ev 3
        rw [HE.out]
        go_wp2_with fail
        rw [eset_id (i := 0) (v := .int .i64 e.k) hR4.ev rfl, eset_id (i := 1) (v := .int .i64 e.sp) hR4.ev rfl, eset_id (i := 2) (v := .int .i64 e.nu) hR4.ev rfl, eset_id (i := 3) (v := .int .i64 e.n) hR4.ev rfl]
        exact bodyPost_ret (v := e.val) (by simp [results, Tryd.results55, go_sem, d0, d1, d2, d3, Ev.val, Ev.cells]) rfl ⟨Or.inl ⟨e, HX.out, rfl⟩, hR4.bel⟩
      · have HE := hide (err_no hok)
        have HX := hide (hE2 hok)
        clear hE1 hE2
        go_wp2_with fail
        refine (echeck_any e _ HW.out).mono ?_; rintro x w4 ⟨rfl, hb4⟩
        have hR4 := hR.keep hb4
        rw [HE.out]
        go_wp2_with fail
        exact ⟨rfl, Or.inr ⟨HX.out, rfl⟩, hR4.bel⟩
    · intro x v kl y0 y1 w4 cnt4 hkey hlx hv hat hrg4 hlt4 hg4 hs4 hen
      obtain ⟨x', ex, rfl, hwx⟩ := Maps.keyOf_int_inv Tryd.underlying3 hkey
      cases ex
      obtain ⟨k, hk, rfl, rfl⟩ := ent_form hv hat
      have hR4 := hR.step hg4 hrw (ranges_iter hrg)
      simp only [fv] at hen ⊢
      obtain ⟨x0, hx0⟩ : ∃ x0, ls[0]? = some x0 := by
        have : ls ≠ [] := by
          rintro rfl
          have := spl_ne 32 s.data.toList
          rw [hws, ← hls] at this
          exact this rfl
        cases ls with
        | nil => exact absurd rfl this
        | cons a l => exact ⟨a, rfl⟩
      obtain ⟨l0, rfl⟩ : ∃ l0 : Bs, x0 = ⟨l0.toArray⟩ := ⟨x0.data.toList, by cases x0; rfl⟩
      have hA5 := hR4.keep (below_alloc1 w4 (.cells #[.string ⟨(word k).toArray⟩, .slice (some ⟨B k, 0, none⟩) (fds k).length (fds k).length] 106))
      have hrg5 := hrg4.alloc (.cells #[.string ⟨(word k).toArray⟩, .slice (some ⟨B k, 0, none⟩) (fds k).length (fds k).length] 106)
      have t0 : (w4.alloc (.cells #[.string ⟨(word k).toArray⟩, .slice (some ⟨B k, 0, none⟩) (fds k).length (fds k).length] 106)).cell? ⟨A, 0, none⟩ = some (.string ⟨l0.toArray⟩) := ecell hA5.wds (by simp [hx0])
      have hwl : 0 < ws.length := by
        have := spl_ne 32 s.data.toList
        rw [hws] at this
        exact List.length_pos_iff.2 this
      have hwl' : (0 : Int) < (ws.length : Int) := by omega
      have hf3 := fds_len k
      have hwlm : ws.length ≤ 1048577 := by
        rw [← hws, spl_len]
        have := List.count_le_length (a := (32 : UInt8)) (l := s.data.toList)
        have e : s.data.toList.length = s.size := by cases s; simp [ByteArray.size]
        omega
      have hh : ws.head? = some l0 := by
        rw [← hls, List.head?_eq_getElem?, List.getElem?_map, hx0]; rfl
      by_cases hwd : word k = l0
      · subst hwd
        by_cases hln : ws.length = (fds k).length + 1
        · have hfit : fits ws k := ⟨hk, hh, hln⟩
          have he0 : e = Ev.zero := by
            rcases hst with ⟨he, _⟩ | ⟨j, hj, hl, _⟩
            · exact he
            · rw [fits_one hj hfit] at hl
              rw [hl] at hlx; cases hlx
          subst he0
          have hwr : IntKind.i64.wrap (((fds k).length : Int) + 1) = ((fds k).length : Int) + 1 := IntWalk.i64_in _ (by omega)
          have HL := hide hln
          have hd : ((ws.length : Int) != ((fds k).length : Int) + 1) = false := by rw [hln]; simp
          clear hln
          go_wp2_with fail
          go_quiet (fail)
          clear hwr hd
          have bN : Below _ _ _ := below_drawn (w := w4.alloc (.cells #[.string ⟨(word k).toArray⟩, .slice (some ⟨B k, 0, none⟩) (fds k).length (fds k).length] 106)) ⟨nq, rfl⟩
          have hrgN := hrg5.kept (grown_of bN) (by simp) (by simp)
          have hAN := hA5.keep bN
          have hbN := keep_heap bN (heap_at (w := w4) (.cells #[.string ⟨(word k).toArray⟩, .slice (some ⟨B k, 0, none⟩) (fds k).length (fds k).length] 106) rfl)
          obtain ⟨W6, hW6⟩ : ∃ W, W = (w4.alloc (.cells #[.string ⟨(word k).toArray⟩, .slice (some ⟨B k, 0, none⟩) (fds k).length (fds k).length] 106)).drewN nq := ⟨_, rfl⟩
          obtain ⟨b7, hb7⟩ : ∃ b, b = wr.heap.size := ⟨_, rfl⟩
          rw [hs4] at hbN
          rw [← hW6] at hrgN hAN hbN ⊢
          rw [← hb7] at hbN ⊢
          clear hW6 hb7 bN hA5 hrg5 t0 hen
          have c0 := hAN.ev.c0
          have f0 := efree hAN.ev 0
          have hA7 : RdAt w (W6.setCell ⟨q, 0, none⟩ (.int .i64 (k : Int))) q A B ls ⟨(k : Int), 0, 0, 0⟩ := hAN.set hqw 0 _ rfl
          have hrg7 := ranges_set (i := 0) hrgN hAN.ev (.int .i64 (k : Int))
          have hb7 := oblk (i := 0) (v := .int .i64 (k : Int)) hAN.ev hbN (by decide)
          have g1 := ecell (i := 1) hb7 rfl
          clear hAN hrgN hbN hb7
          go_wp2_with fail
          obtain ⟨W7, hW7⟩ : ∃ W, W = W6.setCell ⟨q, 0, none⟩ (.int .i64 (k : Int)) := ⟨_, rfl⟩
          rw [← hW7] at hA7 hrg7 ⊢
          clear hW7 g1 c0 f0
          go_loopw [42] (RiRel w q A B ls ws m r k cnt4 (fun z => left z && !z.sameKey (.int .i64 (k : Int)))) (fun i _ => ((fds k).length - intOf i).toNat)
          case atStart =>
            refine ⟨0, _, rfl, by omega, hrg7, hA7, ?_, rfl⟩
            intro c
            unfold Ev.at
            split <;> simp <;> omega
          case round =>
            clear hrg7 hA7
            obtain ⟨j, ej, rfl, hj, hrj, hAj, hwj, hfj⟩ := hrel
            by_cases hjl : j < (fds k).length
            · obtain ⟨f, hf⟩ : ∃ f, (fds k)[j]? = some f := ⟨_, List.getElem?_eq_getElem hjl⟩
              obtain ⟨hc, -, -⟩ := fds_in _ f (List.mem_of_getElem? hf)
              obtain ⟨G0, G1, G2⟩ := fd_get _ j f hf
              have t0 := ecell (hAj.fld k hk.1 hk.2) (by simpa using G0)
              have t1 := ecell (hAj.fld k hk.1 hk.2) (by simpa using G1)
              have t2 := ecell (hAj.fld k hk.1 hk.2) (by simpa using G2)
              have hjl' : (j : Int) < ((fds k).length : Int) := by omega
              have hj0 : (0 : Int) ≤ (j : Int) := by omega
              obtain ⟨x1, hx1⟩ : ∃ x1, ls[j + 1]? = some x1 := ⟨_, List.getElem?_eq_getElem (by have := congrArg List.length hls; rw [List.length_map] at this; have := HL.out; omega)⟩
              obtain ⟨l1, rfl⟩ : ∃ l1 : Bs, x1 = ⟨l1.toArray⟩ := ⟨x1.data.toList, by cases x1; rfl⟩
              have hw1 : ws[j + 1]? = some l1 := by rw [← hls, List.getElem?_map, hx1]; rfl
              have hl1 : l1.length ≤ 1048576 := by
                have h1 := spl_le 32 s.data.toList l1 (by rw [hws]; exact List.mem_of_getElem? hw1)
                have e : s.data.toList.length = s.size := by cases s; simp [ByteArray.size]
                omega
              have hwt : ws.tail[j]? = some l1 := by rw [List.getElem?_tail]; exact hw1
              have hx1s : (⟨l1.toArray⟩ : ByteArray).size ≤ 281474976710656 := by simp [ByteArray.size]; omega
              have hwr1 : IntKind.i64.wrap ((j : Int) + 1) = (j : Int) + 1 := IntWalk.i64_in _ (by omega)
              have hj1 : ((j : Int) + 1).toNat = j + 1 := by omega
              have hj2 : (0 : Int) ≤ (j : Int) + 1 := by omega
              have hj3 : (j : Int) + 1 < (ws.length : Int) := by have := HL.out; omega
              have HF := hide hf
              obtain ⟨c, lo, hi⟩ := f
              clear hf G0 G1 G2
              simp only at hc t0 t1 t2
              obtain rfl | rfl | rfl := hc
              · have hA2 := hAj.keep (below_alloc1 wr (.cells #[.func (.func 94) #[] #[], .int .i64 lo, .int .i64 hi] 112))
                have hr2 := hrj.alloc (.cells #[.func (.func 94) #[] #[], .int .i64 lo, .int .i64 hi] 112)
                have hF2 : (wr.alloc (.cells #[.func (.func 94) #[] #[], .int .i64 lo, .int .i64 hi] 112)).heap[wr.heap.size]? = some (.cells #[.func (.func 94) #[] #[], .int .i64 lo, .int .i64 hi] 112 (0, 0)) := heap_at _ rfl
                have xc := ecell (i := j + 1) (v := .string ⟨l1.toArray⟩) hA2.wds (by simp [hx1])
                go_wp2_with fail
                refine (atoi_any ⟨l1.toArray⟩ _ (g.keep hA2.bel) hx1s).mono ?_; rintro x w8 ⟨hres, hb8⟩
                have hA8 := hA2.keep hb8
                have hr8 := hr2.kept (grown_of hb8) (by simp) (by simp)
                have hF8 := keep_heap hb8 hF2
                clear xc hA2 hr2 hF2 hb8 t0 t1 t2
                rcases hres with ⟨v, hav, rfl⟩ | ⟨hno, v, N, rfl⟩
                · have hav' : atoiAll l1 = .ok v := by simpa using hav
                  have hvb := atoiAll_bounds hav'
                  clear hav
                  by_cases h16 : l1.length ≤ 16
                  · have h16' : ¬ ((16 : Int) < (l1.length : Int)) := by omega
                    by_cases hit : itoa v = l1
                    · have hz : numZ l1 = some v := by
                        unfold numZ; rw [hav']; simp only; rw [if_pos ⟨h16, hit⟩]
                      have HT := hide (fill_take hfj HF.out hwt hz)
                      subst hit
                      clear hz hav'
                      go_wp2_with fail
                      refine (itoa_any v hvb.1 hvb.2 _ (g.keep hA8.bel)).mono ?_; rintro x w9 ⟨rfl, hb9⟩
                      have hA9 := hA8.keep hb9
                      have hr9 := hr8.kept (grown_of hb9) (by simp) (by simp)
                      have hF9 := keep_heap hb9 hF8
                      have y0 := ecell (i := 0) hF9 rfl
                      have yc := hA9.ev.c1
                      have yf := efree hA9.ev 1
                      have hA10 := hA9.set hqw 1 (.int .i64 v) (e' := setF ej 1 v) rfl
                      have hr10 := ranges_set (i := 1) hr9 hA9.ev (.int .i64 v)
                      clear hF9 hA9 hr9 hA8 hr8 hF8 hb9
                      go_wp2_with fail
                      refine (f_space q _).mono ?_; rintro x w' ⟨rfl, rfl⟩
                      go_wp2_with fail
                      go_roundw
                      case rel => exact ⟨j + 1, setF ej 1 v, by go_num, by omega, hr10, hA10, setF_wf hwj 1 hvb, HT.out⟩
                      case measure => simp [intOf]; omega
                    · have hz : numZ l1 = none := by
                        unfold numZ; rw [hav']; simp only; rw [if_neg (fun h => hit h.2)]
                      have hit' : (itoa v == l1) = false := by simpa using hit
                      have HN := hide (readW_none (ws := ws) (fun e' ⟨k', hk', hf', _⟩ => by
                        obtain rfl := fits_one hfit hk'
                        rw [fill_none _ _ _ j l1 hwt hjl hz] at hf'; cases hf'))
                      clear hz hav'
                      go_wp2_with fail
                      refine (itoa_any v hvb.1 hvb.2 _ (g.keep hA8.bel)).mono ?_; rintro x w9 ⟨rfl, hb9⟩
                      have hA9 := hA8.keep hb9
                      go_wp2_with fail
                      exact ⟨rfl, Or.inr ⟨HN.out, rfl⟩, hA9.bel⟩
                  · have h16' : (16 : Int) < (l1.length : Int) := by omega
                    have hz : numZ l1 = none := by
                      unfold numZ; rw [hav']; simp only; rw [if_neg (fun h => h16 h.1)]
                    have HN := hide (readW_none (ws := ws) (fun e' ⟨k', hk', hf', _⟩ => by
                        obtain rfl := fits_one hfit hk'
                        rw [fill_none _ _ _ j l1 hwt hjl hz] at hf'; cases hf'))
                    clear hz hav'
                    go_wp2_with fail
                    exact ⟨rfl, Or.inr ⟨HN.out, rfl⟩, hA8.bel⟩
                · have hz : numZ l1 = none := by
                    unfold numZ
                    split
                    · rename_i v hv; exact absurd hv (hno v)
                    · rfl
                  have HN := hide (readW_none (ws := ws) (fun e' ⟨k', hk', hf', _⟩ => by
                        obtain rfl := fits_one hfit hk'
                        rw [fill_none _ _ _ j l1 hwt hjl hz] at hf'; cases hf'))
                  clear hno hz
                  go_wp2_with fail
                  exact ⟨rfl, Or.inr ⟨HN.out, rfl⟩, hA8.bel⟩
              · have hA2 := hAj.keep (below_alloc1 wr (.cells #[.func (.func 95) #[] #[], .int .i64 lo, .int .i64 hi] 112))
                have hr2 := hrj.alloc (.cells #[.func (.func 95) #[] #[], .int .i64 lo, .int .i64 hi] 112)
                have hF2 : (wr.alloc (.cells #[.func (.func 95) #[] #[], .int .i64 lo, .int .i64 hi] 112)).heap[wr.heap.size]? = some (.cells #[.func (.func 95) #[] #[], .int .i64 lo, .int .i64 hi] 112 (0, 0)) := heap_at _ rfl
                have xc := ecell (i := j + 1) (v := .string ⟨l1.toArray⟩) hA2.wds (by simp [hx1])
                go_wp2_with fail
                refine (atoi_any ⟨l1.toArray⟩ _ (g.keep hA2.bel) hx1s).mono ?_; rintro x w8 ⟨hres, hb8⟩
                have hA8 := hA2.keep hb8
                have hr8 := hr2.kept (grown_of hb8) (by simp) (by simp)
                have hF8 := keep_heap hb8 hF2
                clear xc hA2 hr2 hF2 hb8 t0 t1 t2
                rcases hres with ⟨v, hav, rfl⟩ | ⟨hno, v, N, rfl⟩
                · have hav' : atoiAll l1 = .ok v := by simpa using hav
                  have hvb := atoiAll_bounds hav'
                  clear hav
                  by_cases h16 : l1.length ≤ 16
                  · have h16' : ¬ ((16 : Int) < (l1.length : Int)) := by omega
                    by_cases hit : itoa v = l1
                    · have hz : numZ l1 = some v := by
                        unfold numZ; rw [hav']; simp only; rw [if_pos ⟨h16, hit⟩]
                      have HT := hide (fill_take hfj HF.out hwt hz)
                      subst hit
                      clear hz hav'
                      go_wp2_with fail
                      refine (itoa_any v hvb.1 hvb.2 _ (g.keep hA8.bel)).mono ?_; rintro x w9 ⟨rfl, hb9⟩
                      have hA9 := hA8.keep hb9
                      have hr9 := hr8.kept (grown_of hb9) (by simp) (by simp)
                      have hF9 := keep_heap hb9 hF8
                      have y0 := ecell (i := 0) hF9 rfl
                      have yc := hA9.ev.c2
                      have yf := efree hA9.ev 2
                      have hA10 := hA9.set hqw 2 (.int .i64 v) (e' := setF ej 2 v) rfl
                      have hr10 := ranges_set (i := 2) hr9 hA9.ev (.int .i64 v)
                      clear hF9 hA9 hr9 hA8 hr8 hF8 hb9
                      go_wp2_with fail
                      refine (f_number q _).mono ?_; rintro x w' ⟨rfl, rfl⟩
                      go_wp2_with fail
                      go_roundw
                      case rel => exact ⟨j + 1, setF ej 2 v, by go_num, by omega, hr10, hA10, setF_wf hwj 2 hvb, HT.out⟩
                      case measure => simp [intOf]; omega
                    · have hz : numZ l1 = none := by
                        unfold numZ; rw [hav']; simp only; rw [if_neg (fun h => hit h.2)]
                      have hit' : (itoa v == l1) = false := by simpa using hit
                      have HN := hide (readW_none (ws := ws) (fun e' ⟨k', hk', hf', _⟩ => by
                        obtain rfl := fits_one hfit hk'
                        rw [fill_none _ _ _ j l1 hwt hjl hz] at hf'; cases hf'))
                      clear hz hav'
                      go_wp2_with fail
                      refine (itoa_any v hvb.1 hvb.2 _ (g.keep hA8.bel)).mono ?_; rintro x w9 ⟨rfl, hb9⟩
                      have hA9 := hA8.keep hb9
                      go_wp2_with fail
                      exact ⟨rfl, Or.inr ⟨HN.out, rfl⟩, hA9.bel⟩
                  · have h16' : (16 : Int) < (l1.length : Int) := by omega
                    have hz : numZ l1 = none := by
                      unfold numZ; rw [hav']; simp only; rw [if_neg (fun h => h16 h.1)]
                    have HN := hide (readW_none (ws := ws) (fun e' ⟨k', hk', hf', _⟩ => by
                        obtain rfl := fits_one hfit hk'
                        rw [fill_none _ _ _ j l1 hwt hjl hz] at hf'; cases hf'))
                    clear hz hav'
                    go_wp2_with fail
                    exact ⟨rfl, Or.inr ⟨HN.out, rfl⟩, hA8.bel⟩
                · have hz : numZ l1 = none := by
                    unfold numZ
                    split
                    · rename_i v hv; exact absurd hv (hno v)
                    · rfl
                  have HN := hide (readW_none (ws := ws) (fun e' ⟨k', hk', hf', _⟩ => by
                        obtain rfl := fits_one hfit hk'
                        rw [fill_none _ _ _ j l1 hwt hjl hz] at hf'; cases hf'))
                  clear hno hz
                  go_wp2_with fail
                  exact ⟨rfl, Or.inr ⟨HN.out, rfl⟩, hA8.bel⟩
              · have hA2 := hAj.keep (below_alloc1 wr (.cells #[.func (.func 96) #[] #[], .int .i64 lo, .int .i64 hi] 112))
                have hr2 := hrj.alloc (.cells #[.func (.func 96) #[] #[], .int .i64 lo, .int .i64 hi] 112)
                have hF2 : (wr.alloc (.cells #[.func (.func 96) #[] #[], .int .i64 lo, .int .i64 hi] 112)).heap[wr.heap.size]? = some (.cells #[.func (.func 96) #[] #[], .int .i64 lo, .int .i64 hi] 112 (0, 0)) := heap_at _ rfl
                have xc := ecell (i := j + 1) (v := .string ⟨l1.toArray⟩) hA2.wds (by simp [hx1])
                go_wp2_with fail
                refine (atoi_any ⟨l1.toArray⟩ _ (g.keep hA2.bel) hx1s).mono ?_; rintro x w8 ⟨hres, hb8⟩
                have hA8 := hA2.keep hb8
                have hr8 := hr2.kept (grown_of hb8) (by simp) (by simp)
                have hF8 := keep_heap hb8 hF2
                clear xc hA2 hr2 hF2 hb8 t0 t1 t2
                rcases hres with ⟨v, hav, rfl⟩ | ⟨hno, v, N, rfl⟩
                · have hav' : atoiAll l1 = .ok v := by simpa using hav
                  have hvb := atoiAll_bounds hav'
                  clear hav
                  by_cases h16 : l1.length ≤ 16
                  · have h16' : ¬ ((16 : Int) < (l1.length : Int)) := by omega
                    by_cases hit : itoa v = l1
                    · have hz : numZ l1 = some v := by
                        unfold numZ; rw [hav']; simp only; rw [if_pos ⟨h16, hit⟩]
                      have HT := hide (fill_take hfj HF.out hwt hz)
                      subst hit
                      clear hz hav'
                      go_wp2_with fail
                      refine (itoa_any v hvb.1 hvb.2 _ (g.keep hA8.bel)).mono ?_; rintro x w9 ⟨rfl, hb9⟩
                      have hA9 := hA8.keep hb9
                      have hr9 := hr8.kept (grown_of hb9) (by simp) (by simp)
                      have hF9 := keep_heap hb9 hF8
                      have y0 := ecell (i := 0) hF9 rfl
                      have yc := hA9.ev.c3
                      have yf := efree hA9.ev 3
                      have hA10 := hA9.set hqw 3 (.int .i64 v) (e' := setF ej 3 v) rfl
                      have hr10 := ranges_set (i := 3) hr9 hA9.ev (.int .i64 v)
                      clear hF9 hA9 hr9 hA8 hr8 hF8 hb9
                      go_wp2_with fail
                      refine (f_n q _).mono ?_; rintro x w' ⟨rfl, rfl⟩
                      go_wp2_with fail
                      go_roundw
                      case rel => exact ⟨j + 1, setF ej 3 v, by go_num, by omega, hr10, hA10, setF_wf hwj 3 hvb, HT.out⟩
                      case measure => simp [intOf]; omega
                    · have hz : numZ l1 = none := by
                        unfold numZ; rw [hav']; simp only; rw [if_neg (fun h => hit h.2)]
                      have hit' : (itoa v == l1) = false := by simpa using hit
                      have HN := hide (readW_none (ws := ws) (fun e' ⟨k', hk', hf', _⟩ => by
                        obtain rfl := fits_one hfit hk'
                        rw [fill_none _ _ _ j l1 hwt hjl hz] at hf'; cases hf'))
                      clear hz hav'
                      go_wp2_with fail
                      refine (itoa_any v hvb.1 hvb.2 _ (g.keep hA8.bel)).mono ?_; rintro x w9 ⟨rfl, hb9⟩
                      have hA9 := hA8.keep hb9
                      go_wp2_with fail
                      exact ⟨rfl, Or.inr ⟨HN.out, rfl⟩, hA9.bel⟩
                  · have h16' : (16 : Int) < (l1.length : Int) := by omega
                    have hz : numZ l1 = none := by
                      unfold numZ; rw [hav']; simp only; rw [if_neg (fun h => h16 h.1)]
                    have HN := hide (readW_none (ws := ws) (fun e' ⟨k', hk', hf', _⟩ => by
                        obtain rfl := fits_one hfit hk'
                        rw [fill_none _ _ _ j l1 hwt hjl hz] at hf'; cases hf'))
                    clear hz hav'
                    go_wp2_with fail
                    exact ⟨rfl, Or.inr ⟨HN.out, rfl⟩, hA8.bel⟩
                · have hz : numZ l1 = none := by
                    unfold numZ
                    split
                    · rename_i v hv; exact absurd hv (hno v)
                    · rfl
                  have HN := hide (readW_none (ws := ws) (fun e' ⟨k', hk', hf', _⟩ => by
                        obtain rfl := fits_one hfit hk'
                        rw [fill_none _ _ _ j l1 hwt hjl hz] at hf'; cases hf'))
                  clear hno hz
                  go_wp2_with fail
                  exact ⟨rfl, Or.inr ⟨HN.out, rfl⟩, hA8.bel⟩
            · obtain rfl : j = (fds k).length := by omega
              have htl : ws.tail.length = (fds k).length := by rw [List.length_tail, HL.out]; omega
              rw [List.take_length, ← htl, List.take_length] at hfj
              have hsk : Lit.sameKey (.int .i64 (k : Int)) (.int .i64 (k : Int)) = true := by simp [Lit.sameKey]
              go_wp2_with fail
              go_roundw
              case rel => exact ⟨_, cnt4, ej, hrj, hAj, hwj, Or.inr ⟨k, hfit, by simp [hsk], hfj⟩⟩
              case measure => rw [hrj.left_eq, hrg.left_eq]; exact hlt4
        · have hwr : IntKind.i64.wrap (((fds k).length : Int) + 1) = ((fds k).length : Int) + 1 := IntWalk.i64_in _ (by omega)
          have hln' : ¬ ((ws.length : Int) = ((fds k).length : Int) + 1) := by omega
          have hnf : ¬ fits ws k := fun h => hln h.2.2
          go_wp2_with fail
          go_quiet (fail)
          go_wp2_with fail
          have bN : Below _ _ _ := below_drawn (w := w4.alloc (.cells #[.string ⟨(word k).toArray⟩, .slice (some ⟨B k, 0, none⟩) (fds k).length (fds k).length] 106)) ⟨nq, rfl⟩
          have hrgN := hrg5.kept (grown_of bN) (by simp) (by simp)
          exact ⟨⟨_, cnt4, e, hrgN, hA5.keep bN, hwf, st_skip hst hnf⟩, by rw [hrgN.left_eq, hrg.left_eq]; exact hlt4⟩
      · have hnf : ¬ fits ws k := fun h => hwd (by have := h.2.1; rw [hh] at this; exact (Option.some.inj this).symm)
        go_wp2_with fail
        go_quiet (fail)
        go_wp2_with fail
        have bN : Below _ _ _ := below_drawn (w := w4.alloc (.cells #[.string ⟨(word k).toArray⟩, .slice (some ⟨B k, 0, none⟩) (fds k).length (fds k).length] 106)) ⟨nq, rfl⟩
        have hrgN := hrg5.kept (grown_of bN) (by simp) (by simp)
        exact ⟨⟨_, cnt4, e, hrgN, hA5.keep bN, hwf, st_skip hst hnf⟩, by rw [hrgN.left_eq, hrg.left_eq]; exact hlt4⟩
end Go.Proofs.YtjhkgoppopfoaaaDoor
