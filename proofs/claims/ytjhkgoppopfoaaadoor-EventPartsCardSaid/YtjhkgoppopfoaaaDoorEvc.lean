/-
  Which events may be; the walk of event.Check.
-/
import Derived.Test.YtjhkgoppopfoaaaDoorEvf
import Derived.Deep.RegionHeld3
namespace Go.Proofs.YtjhkgoppopfoaaaDoor
open Go.RowKit Go.Lib Go.Maps
set_option linter.unusedVariables false
set_option linter.unusedSimpArgs false

structure Ev where
  k : Int
  sp : Int
  nu : Int
  n : Int
  deriving DecidableEq
def Ev.at (e : Ev) : Nat → Int
  | 0 => e.k
  | 1 => e.sp
  | 2 => e.nu
  | _ => e.n
def Ev.cells (e : Ev) : Array Value := #[.int .i64 e.k, .int .i64 e.sp, .int .i64 e.nu, .int .i64 e.n]
def Ev.val (e : Ev) : Value := .agg e.cells
def Ev.wf (e : Ev) : Prop := ∀ c, -9223372036854775808 ≤ e.at c ∧ e.at c ≤ 9223372036854775807
/-- An event may be: its kind is one of the six, each of its fields lies in its range, what is none of its fields is 0. -/
def Ev.ok (e : Ev) : Prop := (1 ≤ e.k ∧ e.k ≤ 6) ∧ (∀ f ∈ fds e.k.toNat, f.lo ≤ e.at f.c ∧ e.at f.c ≤ f.hi) ∧ ∀ c, c = 1 ∨ c = 2 ∨ c = 3 → (∀ f ∈ fds e.k.toNat, f.c ≠ c) → e.at c = 0
open Classical in
noncomputable def Ev.err (e : Ev) : Int := if e.ok then 0 else 2
/-- The event at block b. -/
def EvAt (w : World) (b : Nat) (e : Ev) : Prop := w.heap[b]? = some (.cells e.cells 52 (0, 0))
theorem EvAt.keep {w w' : World} {b : Nat} {e : Ev} (h : EvAt w b e) (hb : Below w.heap.size w w') : EvAt w' b e := keep_heap hb h
theorem EvAt.c0 {w : World} {b : Nat} {e : Ev} (h : EvAt w b e) : w.cell? ⟨b, 0, none⟩ = some (.int .i64 e.k) := ecell h rfl
theorem EvAt.c1 {w : World} {b : Nat} {e : Ev} (h : EvAt w b e) : w.cell? ⟨b, 1, none⟩ = some (.int .i64 e.sp) := ecell h rfl
theorem EvAt.c2 {w : World} {b : Nat} {e : Ev} (h : EvAt w b e) : w.cell? ⟨b, 2, none⟩ = some (.int .i64 e.nu) := ecell h rfl
theorem EvAt.c3 {w : World} {b : Nat} {e : Ev} (h : EvAt w b e) : w.cell? ⟨b, 3, none⟩ = some (.int .i64 e.n) := ecell h rfl
theorem efree {w : World} {b : Nat} {cs : Array Value} {t : TypeId} (h : w.heap[b]? = some (.cells cs t (0, 0))) (i : Nat) : w.frozen? ⟨b, i, none⟩ = false := by simp [World.frozen?, h]
theorem set2_cell {p b : Nat} (hne : p ≠ b) (w : World) (x y : Value) (i : Nat) : ((w.setCell ⟨b, 0, none⟩ x).setCell ⟨b, 1, none⟩ y).cell? ⟨p, i, none⟩ = w.cell? ⟨p, i, none⟩ := by
  rw [World.cell?_setCell_other, World.cell?_setCell_other]
  all_goals (intro h; exact hne (by simpa using (congrArg Addr.block h).symm))
/-- What the table answers at a kind. -/
theorem look_yes {w : World} {m : Nat} {B : Nat → Nat} (h : FormsAt w m B) {z : Int} (hz : 1 ≤ z ∧ z ≤ 6) (ok : Bool) :
    (Instr.lookup 108 (.map (some m)) (.int .i64 z) ok).run Tryd.prog w = .ok (if ok then .tuple #[fv z.toNat (B z.toNat), .bool true] else fv z.toNat (B z.toNat)) w := by
  have hk := key3 z (by omega)
  cases ok with
  | true =>
    obtain ⟨v, ps, hr, hv⟩ := h.map.look_ok law3 Tryd.underlying108 (zero106 w) Rf_zero hk
    rw [formD_at, if_pos hz] at hv
    rw [formD_has, decide_eq_true hz] at hr
    rcases Rf_inv hv with ⟨k, b, hkb, rfl, e⟩ | ⟨rfl, e⟩
    · simp only [fD, Prod.mk.injEq, DataW.agg.injEq, List.cons.injEq, DataW.lit.injEq, Lit.int.injEq, true_and, and_true] at e
      have e1 : k = z.toNat := by omega
      have e2 : b = B z.toNat := by omega
      rw [hr, e1, e2]; rfl
    · simp [fD] at e
  | false =>
    obtain ⟨v, ps, hr, hv⟩ := h.map.lookup law3 Tryd.underlying108 (zero106 w) Rf_zero hk
    rw [formD_at, if_pos hz] at hv
    rcases Rf_inv hv with ⟨k, b, hkb, rfl, e⟩ | ⟨rfl, e⟩
    · simp only [fD, Prod.mk.injEq, DataW.agg.injEq, List.cons.injEq, DataW.lit.injEq, Lit.int.injEq, true_and, and_true] at e
      have e1 : k = z.toNat := by omega
      have e2 : b = B z.toNat := by omega
      rw [hr, e1, e2]; rfl
    · simp [fD] at e
theorem look_no {w : World} {m : Nat} {B : Nat → Nat} (h : FormsAt w m B) {z : Int} (hz : ¬ (1 ≤ z ∧ z ≤ 6)) (hr : -9223372036854775808 ≤ z ∧ z ≤ 9223372036854775807) :
    (Instr.lookup 108 (.map (some m)) (.int .i64 z) true).run Tryd.prog w = .ok (.tuple #[.agg #[.string ⟨#[]⟩, .slice none 0 0], .bool false]) w := by
  have hk := key3 z hr
  obtain ⟨v, ps, hr, hv⟩ := h.map.look_ok law3 Tryd.underlying108 (zero106 w) Rf_zero hk
  rw [formD_at, if_neg hz] at hv
  rw [formD_has, decide_eq_false hz] at hr
  rcases Rf_inv hv with ⟨k, b, hkb, rfl, e⟩ | ⟨rfl, e⟩
  · simp [fD] at e
  · exact hr
set_option maxRecDepth 100000 in
theorem echeck_none (e : Ev) (w : World) (hwf : e.wf) (hk : ¬ (1 ≤ e.k ∧ e.k ≤ 6)) : Calls Tryd.prog 30 #[e.val] w fun x w' => x = .returned (.int .i64 2) ∧ Below w.heap.size w w' := by
  have hp : EvAt (w.alloc (.cells e.cells 52)) w.heap.size e := heap_at _ rfl
  have hb := below_alloc1 w (.cells e.cells 52)
  have HK := hide hk
  have HZ := hide (hwf 0)
  have c0 := hp.c0
  simp only [Ev.val, Ev.cells] at hp hb c0 ⊢
  go_enter Tryd.func30, Tryd.ntmps30
  go_wp2_with fail
  obtain ⟨W, hW⟩ : ∃ W, W = w.alloc (.cells #[.int .i64 e.k, .int .i64 e.sp, .int .i64 e.nu, .int .i64 e.n] 52) := ⟨_, rfl⟩
  obtain ⟨p, hpe⟩ : ∃ p, p = w.heap.size := ⟨_, rfl⟩
  rw [← hW] at hp hb c0 ⊢
  rw [← hpe] at hp c0 ⊢
  clear hW hpe
  have hpd : EvAt W.drew p e := hp
  have hne : p ≠ W.heap.size := Nat.ne_of_lt (lt_of_heap hp)
  have hbd : Below w.heap.size w W.drew := below_after hb (below_drewN (Below.refl _ _) 1)
  have hpa := hpd.keep (below_alloc1 _ (.cells #[.string ⟨#[]⟩, .slice none 0 0] 106))
  have ca := hpa.c0
  have hba := below_after hbd (below_alloc1 _ (.cells #[.string ⟨#[]⟩, .slice none 0 0] 106))
  go_region_held3 (fun w' => w'.cell? ⟨p, 0, none⟩ = some (.int .i64 e.k)) (first | exact c0 | exact c1 | exact ca | exact keep_cell (below_alloc1 _ _) c1 | exact (set2_cell hne _ _ _ _).trans c1)
    (first | (go_at_call 60; refine (forms_any W.drew).mono ?_; rintro x w1 ⟨m, B, rfl, hF, hb1⟩; have hl := look_no hF HK.out HZ.out; have c1 := (hpd.keep hb1).c0; have hb2 := below_after hbd hb1; have c2 := ((hpd.keep hb1).keep (below_alloc1 w1 (.cells #[.string ⟨#[]⟩, .slice none 0 0] 106))).c0; have hl2 := look_no (hF.keep (below_alloc1 w1 (.cells #[.string ⟨#[]⟩, .slice none 0 0] 106))) HK.out HZ.out) | (go_at_call 60; refine (forms_any _).mono ?_; rintro x w1 ⟨m, B, rfl, hF, hb1⟩; have hl := look_no hF HK.out HZ.out; have c1 := (hpa.keep hb1).c0; have hb2 := below_after hba hb1; have hz : w1.heap[W.heap.size]? = some (.cells #[.string ⟨#[]⟩, .slice none 0 0] 106 (0, 0)) := keep_heap hb1 (heap_at (w := W.drew) _ rfl); have z0 := ecell (i := 0) hz rfl; have z1 := ecell (i := 1) hz rfl; have f0 := efree hz 0; have f1 := efree hz 1))
  all_goals
    go_wp2_with fail
    go_ret
    refine ⟨rfl, ?_⟩
    first | exact below_after hb2 (below_alloc1 _ _) | exact (hb2.setCell hbd.size _).setCell hbd.size _
theorem f_space (b : Nat) (w : World) : Calls Tryd.prog 94 #[.pointer (some ⟨b, 0, none⟩)] w fun e w' => e = .returned (.pointer (some ⟨b, 1, none⟩)) ∧ w = w' := by
  go_enter Tryd.func94, Tryd.ntmps94
  go_wp2_with fail
  go_ret
  exact ⟨rfl, rfl⟩
theorem f_number (b : Nat) (w : World) : Calls Tryd.prog 95 #[.pointer (some ⟨b, 0, none⟩)] w fun e w' => e = .returned (.pointer (some ⟨b, 2, none⟩)) ∧ w = w' := by
  go_enter Tryd.func95, Tryd.ntmps95
  go_wp2_with fail
  go_ret
  exact ⟨rfl, rfl⟩
theorem f_n (b : Nat) (w : World) : Calls Tryd.prog 96 #[.pointer (some ⟨b, 0, none⟩)] w fun e w' => e = .returned (.pointer (some ⟨b, 3, none⟩)) ∧ w = w' := by
  go_enter Tryd.func96, Tryd.ntmps96
  go_wp2_with fail
  go_ret
  exact ⟨rfl, rfl⟩
def zeroF (e : Ev) : Nat → Ev
  | 1 => { e with sp := 0 }
  | 2 => { e with nu := 0 }
  | _ => { e with n := 0 }
def leftE (e : Ev) (l : List Fd) : Ev := l.foldl (fun e f => zeroF e f.c) { e with k := 0 }
theorem fblk {w : World} {b : Nat} {cs : Array Value} {T : TypeId} {fr : Nat × Nat} (i : Nat) (hb : w.heap[b]? = some (.cells cs T fr)) (v : Value) : (w.setCell ⟨b, i, none⟩ v).heap[b]? = some (.cells (cs.setIfInBounds i v) T fr) := by
  simp [World.setCell, Array.getElem?_modify, hb]
theorem oblk {w : World} {x i k : Nat} {cs cs' : Array Value} {t t' : TypeId} {fz fz' : Nat × Nat} {v : Value} (hx : w.heap[x]? = some (.cells cs' t' fz')) (hk : w.heap[k]? = some (.cells cs t fz)) (ht : t ≠ t') : (w.setCell ⟨x, i, none⟩ v).heap[k]? = some (.cells cs t fz) := by
  have hne : x ≠ k := by rintro rfl; rw [hx] at hk; simp at hk; exact ht hk.2.1.symm
  simp [World.setCell, Array.getElem?_modify, hk, hne]
theorem fds_in : ∀ k, ∀ f ∈ fds k, (f.c = 1 ∨ f.c = 2 ∨ f.c = 3) ∧ (0 ≤ f.lo ∧ f.lo ≤ 2400) ∧ (0 ≤ f.hi ∧ f.hi ≤ 9007199254740991) := by
  intro k f hf
  unfold fds at hf
  split at hf <;> simp at hf
  all_goals (first | (rcases hf with rfl | rfl | rfl <;> simp) | (rcases hf with rfl | rfl <;> simp) | (subst hf; simp))
theorem fd_get : ∀ (l : List Fd) (j : Nat) (f : Fd), l[j]? = some f → (l.flatMap fdCells)[j * 3]? = some (.func (.func (93 + f.c)) #[] #[]) ∧ (l.flatMap fdCells)[j * 3 + 1]? = some (.int .i64 f.lo) ∧ (l.flatMap fdCells)[j * 3 + 2]? = some (.int .i64 f.hi)
  | [], j, f, h => by simp at h
  | x :: l, 0, f, h => by
    simp only [List.getElem?_cons_zero, Option.some.injEq] at h
    subst h
    simp [fdCells]
  | x :: l, j + 1, f, h => by
    have := fd_get l j f (by simpa using h)
    have e : ((x :: l).flatMap fdCells) = .func (.func (93 + x.c)) #[] #[] :: .int .i64 x.lo :: .int .i64 x.hi :: l.flatMap fdCells := by simp [fdCells]
    rw [e]
    have e1 : (j + 1) * 3 = j * 3 + 1 + 1 + 1 := by omega
    rw [e1]
    simpa [List.getElem?_cons_succ] using this
theorem leftE_snoc (e : Ev) (l : List Fd) (f : Fd) : leftE e (l ++ [f]) = zeroF (leftE e l) f.c := by simp [leftE]
theorem take_snoc {l : List Fd} {j : Nat} {f : Fd} (h : l[j]? = some f) : l.take (j + 1) = l.take j ++ [f] := by
  rw [List.take_add_one, h]; rfl
/-- What stays behind the table's look-up: the event at p, the form at b, its fields' list at F. -/
structure ChAt (w wr : World) (p b F : Nat) (e : Ev) : Prop where
  ev : EvAt wr p e
  frm : wr.heap[b]? = some (.cells #[.string ⟨(word e.k.toNat).toArray⟩, .slice (some ⟨F, 0, none⟩) (fds e.k.toNat).length (fds e.k.toNat).length] 106 (0, 0))
  fld : wr.heap[F]? = some (.cells ((fds e.k.toNat).flatMap fdCells).toArray 112 (0, 0))
  bel : Below w.heap.size w wr
theorem ChAt.keep {w wr w' : World} {p b F : Nat} {e : Ev} (h : ChAt w wr p b F e) (hb : Below wr.heap.size wr w') : ChAt w w' p b F e := ⟨h.ev.keep hb, keep_heap hb h.frm, keep_heap hb h.fld, below_after h.bel hb⟩
def ElRel (w : World) (p q b F : Nat) (e : Ev) (i : Value) (wr : World) : Prop := ∃ j : Nat, i = .int .i64 (j : Int) ∧ j ≤ (fds e.k.toNat).length ∧ ChAt w wr p b F e ∧ EvAt wr q (leftE e ((fds e.k.toNat).take j)) ∧ ∀ f ∈ (fds e.k.toNat).take j, f.lo ≤ e.at f.c ∧ e.at f.c ≤ f.hi
theorem err_no {e : Ev} (h : ¬ e.ok) : e.err = 2 := by unfold Ev.err; rw [if_neg h]
theorem err_yes {e : Ev} (h : e.ok) : e.err = 0 := by unfold Ev.err; rw [if_pos h]
theorem ChAt.set {w wr : World} {p b F q : Nat} {e e' : Ev} (h : ChAt w wr p b F e) (hq : EvAt wr q e') (hne : p ≠ q) (hw : w.heap.size ≤ q) (i : Nat) (v : Value) : ChAt w (wr.setCell ⟨q, i, none⟩ v) p b F e := by
  refine ⟨?_, oblk hq h.frm (by decide), oblk hq h.fld (by decide), h.bel.setCell (p := ⟨q, i, none⟩) hw v⟩
  have := h.ev
  unfold EvAt at this ⊢
  have hne2 : q ≠ p := fun x => hne x.symm
  simp [World.setCell, Array.getElem?_modify, this, hne2]
theorem EvAt.zero {wr : World} {q : Nat} {e : Ev} (h : EvAt wr q e) (c : Nat) (hc : c = 1 ∨ c = 2 ∨ c = 3) : EvAt (wr.setCell ⟨q, c, none⟩ (.int .i64 0)) q (zeroF e c) := by
  have := fblk c h (.int .i64 0)
  obtain rfl | rfl | rfl := hc
  all_goals exact this
theorem bad_field {e : Ev} {f : Fd} {j : Nat} (hf : (fds e.k.toNat)[j]? = some f) (h : ¬ (f.lo ≤ e.at f.c ∧ e.at f.c ≤ f.hi)) : e.err = 2 := err_no fun hk => h (hk.2.1 f (List.mem_of_getElem? hf))
theorem fds_len (k : Nat) : (fds k).length ≤ 3 := by unfold fds; split <;> simp
theorem zeroF_at (e : Ev) (d c : Nat) (hd : d = 1 ∨ d = 2 ∨ d = 3) (hc : c = 1 ∨ c = 2 ∨ c = 3) : (zeroF e d).at c = if d = c then 0 else e.at c := by
  obtain rfl | rfl | rfl := hd <;> obtain rfl | rfl | rfl := hc <;> rfl
theorem zeroF_k (e : Ev) (d : Nat) : (zeroF e d).k = e.k := by unfold zeroF; split <;> rfl
theorem fold_at (c : Nat) (hc : c = 1 ∨ c = 2 ∨ c = 3) : ∀ (l : List Fd) (e : Ev), (∀ f ∈ l, f.c = 1 ∨ f.c = 2 ∨ f.c = 3) → (l.foldl (fun e f => zeroF e f.c) e).k = e.k ∧ ((∃ f ∈ l, f.c = c) → (l.foldl (fun e f => zeroF e f.c) e).at c = 0) ∧ ((∀ f ∈ l, f.c ≠ c) → (l.foldl (fun e f => zeroF e f.c) e).at c = e.at c) ∧ (e.at c = 0 → (l.foldl (fun e f => zeroF e f.c) e).at c = 0)
  | [], e, h => ⟨rfl, by simp, fun _ => rfl, fun h => h⟩
  | x :: l, e, h => by
    have hx := h x (by simp)
    obtain ⟨i1, i2, i3, i4⟩ := fold_at c hc l (zeroF e x.c) (fun f hf => h f (by simp [hf]))
    rw [zeroF_at e x.c c hx hc] at i3 i4
    refine ⟨by rw [List.foldl_cons, i1, zeroF_k], ?_, ?_, ?_⟩
    · rintro ⟨f, hf, hfc⟩
      rw [List.foldl_cons]
      by_cases hxc : x.c = c
      · exact i4 (by rw [if_pos hxc])
      · rcases List.mem_cons.1 hf with rfl | hf
        · exact absurd hfc hxc
        · exact i2 ⟨f, hf, hfc⟩
    · intro hn
      rw [List.foldl_cons, i3 (fun f hf => hn f (by simp [hf])), if_neg (hn x (by simp))]
    · intro h0
      rw [List.foldl_cons]
      refine i4 ?_
      split
      · rfl
      · exact h0
def Ev.zero : Ev := ⟨0, 0, 0, 0⟩
theorem left_ok {e : Ev} (hk : 1 ≤ e.k ∧ e.k ≤ 6) (hin : ∀ f ∈ fds e.k.toNat, f.lo ≤ e.at f.c ∧ e.at f.c ≤ f.hi) : leftE e (fds e.k.toNat) = Ev.zero ↔ e.ok := by
  have hc : ∀ f ∈ fds e.k.toNat, f.c = 1 ∨ f.c = 2 ∨ f.c = 3 := fun f hf => (fds_in _ f hf).1
  have key := fun c hcc => fold_at c hcc (fds e.k.toNat) { e with k := 0 } hc
  have h1 := key 1 (by decide)
  have h2 := key 2 (by decide)
  have h3 := key 3 (by decide)
  constructor
  · intro hz
    refine ⟨hk, hin, fun c hcc hn => ?_⟩
    have h := (key c hcc).2.2.1 hn
    have hz' : (fds e.k.toNat).foldl (fun e f => zeroF e f.c) { e with k := 0 } = Ev.zero := hz
    rw [hz'] at h
    obtain rfl | rfl | rfl := hcc <;> exact h.symm
  · intro hok
    have at0 : ∀ c, c = 1 ∨ c = 2 ∨ c = 3 → (leftE e (fds e.k.toNat)).at c = 0 := by
      intro c hcc
      by_cases hx : ∃ f ∈ fds e.k.toNat, f.c = c
      · exact (key c hcc).2.1 hx
      · have hn : ∀ f ∈ fds e.k.toNat, f.c ≠ c := fun f hf h => hx ⟨f, hf, h⟩
        have := (key c hcc).2.2.1 hn
        have h0 := hok.2.2 c hcc hn
        refine this.trans ?_
        obtain rfl | rfl | rfl := hcc <;> exact h0
    have hk0 : (leftE e (fds e.k.toNat)).k = 0 := h1.1
    have a1 := at0 1 (by decide)
    have a2 := at0 2 (by decide)
    have a3 := at0 3 (by decide)
    generalize leftE e (fds e.k.toNat) = L at hk0 a1 a2 a3
    obtain ⟨k, sp, nu, n⟩ := L
    simp only [Ev.at] at hk0 a1 a2 a3
    subst hk0; subst a1; subst a2; subst a3
    rfl
set_option maxRecDepth 100000 in
theorem neq_ev (a b : Ev) (w : World) : (binOp .neq 52 a.val b.val).run Tryd.prog w = .ok (.bool (!decide (a = b))) w := by
  obtain ⟨a0, a1, a2, a3⟩ := a
  obtain ⟨b0, b1, b2, b3⟩ := b
  simp only [Ev.val, Ev.cells]
  simp [go_sem]
  repeat' split
  all_goals simp_all
set_option maxRecDepth 100000 in
theorem eql_ev (a b : Ev) (w : World) : (binOp .eql 52 a.val b.val).run Tryd.prog w = .ok (.bool (decide (a = b))) w := by
  obtain ⟨a0, a1, a2, a3⟩ := a
  obtain ⟨b0, b1, b2, b3⟩ := b
  simp only [Ev.val, Ev.cells]
  simp [go_sem]
  repeat' split
  all_goals simp_all
set_option maxRecDepth 100000 in
set_option maxHeartbeats 8000000 in
theorem echeck_some (e : Ev) (w : World) (hwf : e.wf) (hk : 1 ≤ e.k ∧ e.k ≤ 6) : Calls Tryd.prog 30 #[e.val] w fun x w' => x = .returned (.int .i64 e.err) ∧ Below w.heap.size w w' := by
  have hp : EvAt (w.alloc (.cells e.cells 52)) w.heap.size e := heap_at _ rfl
  have hb := below_alloc1 w (.cells e.cells 52)
  have HK := hide hk
  have c0 := hp.c0
  simp only [Ev.val, Ev.cells] at hp hb c0 ⊢
  go_enter Tryd.func30, Tryd.ntmps30
  go_upto_region 1 with (fail)
  obtain ⟨W, hW⟩ : ∃ W, W = w.alloc (.cells #[.int .i64 e.k, .int .i64 e.sp, .int .i64 e.nu, .int .i64 e.n] 52) := ⟨_, rfl⟩
  obtain ⟨p, hpe⟩ : ∃ p, p = w.heap.size := ⟨_, rfl⟩
  rw [← hW] at hp hb c0 ⊢
  rw [← hpe] at hp c0 ⊢
  clear hW hpe
  go_cut [3, 4, 9, 10, 11, 12, 13, 14, 15] (fun t3 t4 _ _ _ _ _ _ _ wc => t4 = .bool true ∧ ∃ b F, t3 = .pointer (some ⟨b, 0, none⟩) ∧ ChAt w wc p b F e)
  case first =>
    have hpd : EvAt W.drew p e := hp
    have hne : p ≠ W.heap.size := Nat.ne_of_lt (lt_of_heap hp)
    have hbd : Below w.heap.size w W.drew := below_after hb (below_drewN (Below.refl _ _) 1)
    have hpa := hpd.keep (below_alloc1 _ (.cells #[.string ⟨#[]⟩, .slice none 0 0] 106))
    have ca := hpa.c0
    have hba := below_after hbd (below_alloc1 _ (.cells #[.string ⟨#[]⟩, .slice none 0 0] 106))
    go_region_held3 (fun w' => w'.cell? ⟨p, 0, none⟩ = some (.int .i64 e.k)) (first | exact c0 | exact c1 | exact ca | exact keep_cell (below_alloc1 _ _) c1 | exact (set2_cell hne _ _ _ _).trans c1)
      (first | (go_at_call 60; refine (forms_any W.drew).mono ?_; rintro x w1 ⟨m, B, rfl, hF, hb1⟩; have hl := look_yes hF HK.out true; simp only [fv, if_true] at hl; have HF := hF.blk e.k.toNat (by have := HK.out; omega) (by have := HK.out; omega); have hp1 := hpd.keep hb1; have c1 := hp1.c0; have hb2 := below_after hbd hb1; have hl2 := look_yes (hF.keep (below_alloc1 w1 (.cells #[.string ⟨#[]⟩, .slice none 0 0] 106))) HK.out true; simp only [fv, if_true] at hl2) | (go_at_call 60; refine (forms_any _).mono ?_; rintro x w1 ⟨m, B, rfl, hF, hb1⟩; have hl := look_yes hF HK.out true; simp only [fv, if_true] at hl; have HF := hF.blk e.k.toNat (by have := HK.out; omega) (by have := HK.out; omega); have hp1 := hpa.keep hb1; have c1 := hp1.c0; have hb2 := below_after hba hb1; have hz : w1.heap[W.heap.size]? = some (.cells #[.string ⟨#[]⟩, .slice none 0 0] 106 (0, 0)) := keep_heap hb1 (heap_at (w := W.drew) _ rfl); have z0 := ecell (i := 0) hz rfl; have z1 := ecell (i := 1) hz rfl; have f0 := efree hz 0; have f1 := efree hz 1))
    all_goals go_wp2_with fail
    all_goals go_meet
    · exact ⟨rfl, _, B e.k.toNat, rfl, ⟨keep_heap (below_alloc1 _ _) hp1, heap_at _ rfl, keep_heap (below_alloc1 _ _) HF, below_after hb2 (below_alloc1 _ _)⟩⟩
    · exact ⟨rfl, _, B e.k.toNat, rfl, ⟨keep_heap (below_alloc1 _ _) hp1, heap_at _ rfl, keep_heap (below_alloc1 _ _) HF, below_after hb2 (below_alloc1 _ _)⟩⟩
    · have hx := fblk 0 hz (.string ⟨(word e.k.toNat).toArray⟩)
      exact ⟨rfl, _, B e.k.toNat, rfl, ⟨oblk hx (oblk hz hp1 (by decide)) (by decide), fblk 1 hx _, oblk hx (oblk hz HF (by decide)) (by decide), (hb2.setCell hbd.size _).setCell hbd.size _⟩⟩
  case rest =>
    obtain ⟨rfl, b, F, rfl, hA⟩ := hcut
    have a0 := hA.ev.c0
    have a1 := hA.ev.c1
    have a2 := hA.ev.c2
    have a3 := hA.ev.c3
    have hA1 := hA.keep (below_alloc1 _ (.cells (leftE e []).cells 52))
    have hq : EvAt (wc.alloc (.cells (leftE e []).cells 52)) wc.heap.size (leftE e []) := heap_at _ rfl
    have g1 := ecell (i := 1) hA1.frm rfl
    simp only [leftE, List.foldl_nil, Ev.cells] at g1 hA1 hq
    clear hp hb c0
    have hpq : p ≠ wc.heap.size := Nat.ne_of_lt (lt_of_heap hA.ev)
    go_wp2_with fail
    obtain ⟨W2, hW2⟩ : ∃ W, W = wc.alloc (.cells #[.int .i64 0, .int .i64 e.sp, .int .i64 e.nu, .int .i64 e.n] 52) := ⟨_, rfl⟩
    obtain ⟨q, hqe⟩ : ∃ q, q = wc.heap.size := ⟨_, rfl⟩
    rw [← hW2] at hA1 hq g1 ⊢
    have hqw : w.heap.size ≤ q := by rw [hqe]; exact hA.bel.size
    rw [← hqe] at hq hpq ⊢
    clear hW2 hqe a0 a1 a2 a3 hA g1
    go_loopw [23] (ElRel w p q b F e) (fun i _ => ((fds e.k.toNat).length - intOf i).toNat)
    case atStart => exact ⟨0, rfl, by omega, hA1, hq, by simp⟩
    case round =>
      clear hA1 hq
      obtain ⟨j, rfl, hj, hA, hq, hin⟩ := hrel
      have hj3 := fds_len e.k.toNat
      by_cases hlt : j < (fds e.k.toNat).length
      · obtain ⟨f, hf⟩ : ∃ f, (fds e.k.toNat)[j]? = some f := ⟨_, List.getElem?_eq_getElem hlt⟩
        obtain ⟨hc, ⟨hl0, hl1⟩, hh0, hh1⟩ := fds_in _ f (List.mem_of_getElem? hf)
        obtain ⟨G0, G1, G2⟩ := fd_get _ j f hf
        have t0 := ecell hA.fld (by simpa using G0)
        have t1 := ecell hA.fld (by simpa using G1)
        have t2 := ecell hA.fld (by simpa using G2)
        have hjl : (j : Int) < ((fds e.k.toNat).length : Int) := by omega
        have hj0 : (0 : Int) ≤ (j : Int) := by omega
        have HF := hide hf
        obtain ⟨c, lo, hi⟩ := f
        clear hf G0 G1 G2
        simp only at hc hl0 hl1 hh0 hh1 t0 t1 t2
        obtain rfl | rfl | rfl := hc
        · have hA2 := hA.keep (below_alloc1 wr (.cells #[.func (.func 94) #[] #[], .int .i64 lo, .int .i64 hi] 112))
          have hq2 := hq.keep (below_alloc1 wr (.cells #[.func (.func 94) #[] #[], .int .i64 lo, .int .i64 hi] 112))
          have v0 := hA2.ev.c1
          have HQ := hide hq2
          have hz := ecell (i := 1) hq2 rfl
          have hfz := efree hq2 1
          by_cases hlo : lo ≤ e.sp
          · by_cases hhi : e.sp ≤ hi
            · go_wp2_with fail
              refine (f_space p _).mono ?_; rintro x w' ⟨rfl, rfl⟩
              go_wp2_with fail
              refine (f_space q _).mono ?_; rintro x w' ⟨rfl, rfl⟩
              go_wp2_with fail
              go_roundw
              case rel =>
                refine ⟨j + 1, by go_num, by omega, hA2.set HQ.out hpq hqw _ _, ?_, ?_⟩
                · rw [take_snoc HF.out, leftE_snoc]
                  exact HQ.out.zero 1 (by decide)
                · intro f hf
                  rw [take_snoc HF.out, List.mem_append] at hf
                  rcases hf with hf | hf
                  · exact hin f hf
                  · rw [List.mem_singleton.1 hf]; exact ⟨hlo, hhi⟩
              case measure => simp [intOf]; omega
            · have HE := hide (bad_field HF.out (by intro h; exact hhi h.2))
              go_wp2_with fail
              refine (f_space p _).mono ?_; rintro x w' ⟨rfl, rfl⟩
              go_wp2_with fail
              go_ret
              exact ⟨by rw [HE.out]; rfl, hA2.bel⟩
          · have HE := hide (bad_field HF.out (by intro h; exact hlo h.1))
            go_wp2_with fail
            refine (f_space p _).mono ?_; rintro x w' ⟨rfl, rfl⟩
            go_wp2_with fail
            go_ret
            exact ⟨by rw [HE.out]; rfl, hA2.bel⟩
        · have hA2 := hA.keep (below_alloc1 wr (.cells #[.func (.func 95) #[] #[], .int .i64 lo, .int .i64 hi] 112))
          have hq2 := hq.keep (below_alloc1 wr (.cells #[.func (.func 95) #[] #[], .int .i64 lo, .int .i64 hi] 112))
          have v0 := hA2.ev.c2
          have HQ := hide hq2
          have hz := ecell (i := 2) hq2 rfl
          have hfz := efree hq2 2
          by_cases hlo : lo ≤ e.nu
          · by_cases hhi : e.nu ≤ hi
            · go_wp2_with fail
              refine (f_number p _).mono ?_; rintro x w' ⟨rfl, rfl⟩
              go_wp2_with fail
              refine (f_number q _).mono ?_; rintro x w' ⟨rfl, rfl⟩
              go_wp2_with fail
              go_roundw
              case rel =>
                refine ⟨j + 1, by go_num, by omega, hA2.set HQ.out hpq hqw _ _, ?_, ?_⟩
                · rw [take_snoc HF.out, leftE_snoc]
                  exact HQ.out.zero 2 (by decide)
                · intro f hf
                  rw [take_snoc HF.out, List.mem_append] at hf
                  rcases hf with hf | hf
                  · exact hin f hf
                  · rw [List.mem_singleton.1 hf]; exact ⟨hlo, hhi⟩
              case measure => simp [intOf]; omega
            · have HE := hide (bad_field HF.out (by intro h; exact hhi h.2))
              go_wp2_with fail
              refine (f_number p _).mono ?_; rintro x w' ⟨rfl, rfl⟩
              go_wp2_with fail
              go_ret
              exact ⟨by rw [HE.out]; rfl, hA2.bel⟩
          · have HE := hide (bad_field HF.out (by intro h; exact hlo h.1))
            go_wp2_with fail
            refine (f_number p _).mono ?_; rintro x w' ⟨rfl, rfl⟩
            go_wp2_with fail
            go_ret
            exact ⟨by rw [HE.out]; rfl, hA2.bel⟩
        · have hA2 := hA.keep (below_alloc1 wr (.cells #[.func (.func 96) #[] #[], .int .i64 lo, .int .i64 hi] 112))
          have hq2 := hq.keep (below_alloc1 wr (.cells #[.func (.func 96) #[] #[], .int .i64 lo, .int .i64 hi] 112))
          have v0 := hA2.ev.c3
          have HQ := hide hq2
          have hz := ecell (i := 3) hq2 rfl
          have hfz := efree hq2 3
          by_cases hlo : lo ≤ e.n
          · by_cases hhi : e.n ≤ hi
            · go_wp2_with fail
              refine (f_n p _).mono ?_; rintro x w' ⟨rfl, rfl⟩
              go_wp2_with fail
              refine (f_n q _).mono ?_; rintro x w' ⟨rfl, rfl⟩
              go_wp2_with fail
              go_roundw
              case rel =>
                refine ⟨j + 1, by go_num, by omega, hA2.set HQ.out hpq hqw _ _, ?_, ?_⟩
                · rw [take_snoc HF.out, leftE_snoc]
                  exact HQ.out.zero 3 (by decide)
                · intro f hf
                  rw [take_snoc HF.out, List.mem_append] at hf
                  rcases hf with hf | hf
                  · exact hin f hf
                  · rw [List.mem_singleton.1 hf]; exact ⟨hlo, hhi⟩
              case measure => simp [intOf]; omega
            · have HE := hide (bad_field HF.out (by intro h; exact hhi h.2))
              go_wp2_with fail
              refine (f_n p _).mono ?_; rintro x w' ⟨rfl, rfl⟩
              go_wp2_with fail
              go_ret
              exact ⟨by rw [HE.out]; rfl, hA2.bel⟩
          · have HE := hide (bad_field HF.out (by intro h; exact hlo h.1))
            go_wp2_with fail
            refine (f_n p _).mono ?_; rintro x w' ⟨rfl, rfl⟩
            go_wp2_with fail
            go_ret
            exact ⟨by rw [HE.out]; rfl, hA2.bel⟩
      · obtain rfl : j = (fds e.k.toNat).length := by omega
        rw [List.take_length] at hq hin
        have hlo := left_ok HK.out hin
        obtain ⟨L, hL⟩ : ∃ L, leftE e (fds e.k.toNat) = L := ⟨_, rfl⟩
        rw [hL] at hq hlo
        have d0 := hq.c0
        have d1 := hq.c1
        have d2 := hq.c2
        have d3 := hq.c3
        have hN := neq_ev L Ev.zero
        have hB := hide hA.bel
        by_cases hz : L = Ev.zero
        · have HE := hide (err_yes (hlo.1 hz))
          rw [decide_eq_true hz] at hN
          simp only [Ev.val, Ev.cells, Ev.zero, Bool.not_true] at hN
          clear hlo hL hz
          go_wp2_with fail
          go_ret
          exact ⟨by rw [HE.out]; rfl, hB.out⟩
        · have HE := hide (err_no (e := e) (fun h => hz (hlo.2 h)))
          rw [decide_eq_false hz] at hN
          simp only [Ev.val, Ev.cells, Ev.zero, Bool.not_false] at hN
          clear hlo hL hz
          go_wp2_with fail
          go_ret
          exact ⟨by rw [HE.out]; rfl, hB.out⟩
theorem echeck_any (e : Ev) (w : World) (hwf : e.wf) : Calls Tryd.prog 30 #[e.val] w fun x w' => x = .returned (.int .i64 e.err) ∧ Below w.heap.size w w' := by
  by_cases hk : 1 ≤ e.k ∧ e.k ≤ 6
  · exact echeck_some e w hwf hk
  · rw [err_no (fun h => hk h.1)]
    exact echeck_none e w hwf hk
end Go.Proofs.YtjhkgoppopfoaaaDoor
