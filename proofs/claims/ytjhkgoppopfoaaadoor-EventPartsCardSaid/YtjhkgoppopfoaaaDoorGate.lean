/-
  THE ROWS' COMMON PART: the seven listed variables as each row lists them; what they give the walks ('Gd'); the wrapper that hands on the world's shape; nine numbers opened.
-/
import Derived.Test.YtjhkgoppopfoaaaDoorRows
import Derived.Test.YtjhkgoppopfoaaaDoorMade
import Derived.ProofKit
import Derived.OpenShut
import Derived.ShutString
import Derived.ChangeOld
import Derived.LaidMore
import Derived.Lay
import Derived.SevenTiedAt
import Derived.Stop.Joined
import Derived.Stop.LaidErr
import Derived.Lib.LaidTab
import Derived.Laws.IdiomArrays
import Derived.Lib.SmallJoins
namespace Go.Proofs.YtjhkgoppopfoaaaDoor
open Go Go.ChangeShapes Go.WideShapes Go.ChangeAt Go.RowKit Go.Lib
set_option linter.unusedVariables false
set_option linter.unusedSimpArgs false

/-- The seven. -/
abbrev L7 : List (String × DataW Unit) := Rows.confEdgesRow.laid
theorem own : ownKnob Tryd.prog.godebug = none := by kernel_rfl
theorem laidOut : laidOutB Tryd.prog = true := by kernel_rfl
theorem gtab_data : (Rows.laid_internal_strconv_uint64pow10 : DataW Unit) = tabData .u64 pow10Tab := by kernel_rfl
set_option maxRecDepth 100000 in
theorem noHandle {W : World} (h : laidMetH Tryd.prog L7 W) : laidMet Tryd.prog L7 W := by
  rw [MakeChecks.laidMetH_plain _ _ _ (by kernel_rfl)] at h; exact h

/-- A sentinel: the variable holds an interface value. -/
theorem laid_iface {n nm : String} {d : DataW Unit} {r : List (String × DataW Unit)} {W : World} {g : Nat} {ti : TypeId} {ms : Array (String × TypeId)}
    (h : laidMet Tryd.prog ((n, .iface nm d) :: r) W) (hg : Tryd.prog.globalNamed n = some g) (ht : (Tryd.prog.globals[g]?).map (·.type) = some ti) (hi : Tryd.prog.underlying ti = some (.interface ms)) :
    ∃ tp p, W.var? Tryd.prog n = some #[.iface tp p] := by
  obtain ⟨ps, ⟨g0, t0, cs0, f0, p0, q0, hg0, ht0, hv0, hd0, _, e0⟩, _, hrows⟩ := h
  obtain rfl := Option.some.inj (hg.symm.trans hg0)
  obtain rfl := Option.some.inj (ht.symm.trans ht0)
  obtain ⟨f1, u, v, hcs, hn, h1⟩ := iface_of_trod hi hd0
  obtain ⟨l0⟩ := cs0
  subst hcs
  exact ⟨u, v, hv0⟩

theorem var?_lt {P : Program} {W : World} {n : String} {g : Nat} {cs : Array Value} (hg : P.globalNamed n = some g) (h : W.var? P n = some cs) : g < W.heap.size := by
  unfold World.var? at h
  simp only [hg, Option.bind_some] at h
  rcases Nat.lt_or_ge g W.heap.size with h' | h'
  · exact h'
  · simp [Array.getElem?_eq_none h'] at h
theorem gd_of {W : World} (hL : laidMetH Tryd.prog L7 W) (hsh : W.ShapedOpen Tryd.prog) : Gd W := by
  have h0 := noHandle hL
  have h2 := h0.tail.tail
  refine ⟨?_, ?_, ?_, Tryd.laysM138.s1_3 W hsh, ?_⟩
  · have e : (tabData .u64 pow10Tab : DataW Unit) = Rows.laid_internal_strconv_uint64pow10 := gtab_data.symm
    rw [← e] at h2
    exact tabIs_of_head (t := 155) (e := 135) (n := 20) gTab (by kernel_rfl) (by kernel_rfl) (by kernel_rfl) (by kernel_rfl) (by kernel_rfl) h2
  · exact laid_iface (ti := 79) (ms := #[("Error", 83)]) h2.tail.tail.tail gSyn (by kernel_rfl) (by kernel_rfl)
  · exact laid_iface (ti := 79) (ms := #[("Error", 83)]) h2.tail.tail gRng (by kernel_rfl) (by kernel_rfl)
  · obtain ⟨ps, ⟨g0, t0, cs0, f0, p0, q0, hg0, ht0, hv0, _⟩, _⟩ := h0.tail
    obtain rfl := Option.some.inj ((show Tryd.prog.globalNamed "math/bits.deBruijn64tab" = some 7 by kernel_rfl).symm.trans hg0)
    have := var?_lt hg0 hv0
    omega

theorem returns_laid {H : Type} {enc : TypeId × Value → H} {a : Assume} {C : Checked} {os : Os} {f : FuncId} {fn : Func} {s : ChangeSpec} {conds : List PathCond} {apart fresh handsOn again : Bool} {X : World → Array Value → Prop}
    (hX : ∀ (w w' : World) (args : Array Value), w.heap = w'.heap → X w args → X w' args)
    (own : ownKnob C.prog.godebug = none) (started : os.Started) (noInit : C.prog.inits.idxOf? f = none) (hfn : C.prog.funcs[f]? = some fn)
    (witness : ∃ (w : World) (tape : Tape) (i : Input), w.os = os ∧ (w.forCall tape i).Shaped C.prog ∧ i.vars = [] ∧ Input.okWide C.prog (w.forCall tape i) .any w.heap.size f i ∧
      ((s.pre enc C.prog fn conds apart (w.forCall tape i).memory i.args ∧ X (w.forCall tape i).memory i.args) ∧ sizedMet enc C.prog fn (OpenSpec.ofChange s) apart (w.forCall tape i).memory i.args) ∧ a.holds C.prog (lone (Frame.enter C.prog f i.args .normal) [] (w.forCall tape i)))
    (contract : ∀ (W : World) (base : Nat) (args : Array Value) (ds gs : List (DataW H)) (before : List MemPlace),
      (∀ (j : Nat) t v, fn.params[j]? = some t → args[j]? = some v → Value.okWide C.prog W .any base t v) →
      DataW.Whole enc C.prog fn.params.toList s.vars apart W args.toList ds gs before →
      (DataW.weightsEach C.prog (fn.params.toList ++ s.plain.varTypes C.prog) (ds ++ gs)).all (· ≤ reachBytes) = true → X W args → W.ShapedOpen C.prog →
      Calls C.prog f args W fun e W' => ∃ v, e = .returned v ∧ s.post enc C.prog fn apart fresh handsOn again W args v W') :
    ReturnsInHanded a C os f .any (fun w args => (s.pre enc C.prog fn conds apart w args ∧ X w args) ∧ sizedMet enc C.prog fn (OpenSpec.ofChange s) apart w args) (s.post enc C.prog fn apart fresh handsOn again) := by
  refine returnsInHanded_of_calls own started noInit witness ?_
  intro w tape i _ hsh _ hok hpre hholds
  obtain ⟨_, _, _, fn', hfn', _, _, _, _, hval⟩ := hok
  have e : fn' = fn := Option.some.inj (hfn'.symm.trans hfn)
  subst e
  obtain ⟨⟨⟨ds, gs, before, hw, hc⟩, hx⟩, hz⟩ := hpre
  have hw' := DataW.Whole.of_heap (w' := w.forCall tape i) (by rfl) hw
  refine (contract (w.forCall tape i) w.heap.size i.args ds gs before hval hw' (hz.weights hw) (hX _ _ _ (by rfl) hx) hsh).mono fun e W' ⟨v, he, hp⟩ => ?_
  subst he
  exact ChangeSpec.post_blind hp

/-- The witness's world lays the seven. -/
noncomputable abbrev W7 (os : Os) : World := World.laidAll Tryd.prog os L7
set_option maxRecDepth 100000 in
theorem met7 (os : Os) (args : Array Value) : laidMetH Tryd.prog L7 ((W7 os).forCall (fun _ _ => 0) ⟨#[], args, []⟩).memory := by
  rw [MakeChecks.laidMetH_plain _ _ _ (by kernel_rfl)]
  exact laidMet_laidAll _ (by kernel_rfl) (by kernel_rfl)
set_option maxRecDepth 100000 in
theorem shaped7 (os : Os) (args : Array Value) : ((W7 os).forCall (fun _ _ => 0) ⟨#[], args, []⟩).Shaped Tryd.prog :=
  World.shaped_of_ZipB (by kernel_rfl) (by kernel_rfl)

theorem isI_wf {n : Int} (h : (Lit.int .i64 n).wf = true) : IsI n := by
  have hmin : IntKind.i64.min = -9223372036854775808 := rfl
  have hmax : IntKind.i64.max = 9223372036854775807 := rfl
  simp only [Lit.wf, Bool.and_eq_true, decide_eq_true_eq] at h
  unfold IsI
  omega
theorem nine {α : Type} {a : Array α} (h : a.size = 9) : ∃ c0 c1 c2 c3 c4 c5 c6 c7 c8, a = #[c0, c1, c2, c3, c4, c5, c6, c7, c8] := by
  obtain ⟨l⟩ := a
  match l, h with
  | [c0, c1, c2, c3, c4, c5, c6, c7, c8], _ => exact ⟨c0, c1, c2, c3, c4, c5, c6, c7, c8, rfl⟩
set_option maxRecDepth 100000 in
/-- An argument of nine numbers, opened. -/
theorem open_l9 {H : Type} {enc : TypeId × Value → H} {W : World} {base b0 : Nat} {sp : Nat → Bool} {held : Bool} {r : Reach} {v : Value} {d : DataW H} {p : List MemPlace}
    (hv : Value.okWide Tryd.prog W r b0 22 v) (h : DataW.Trod enc Tryd.prog W base sp held 22 v d p) : ∃ l : L9, v = l.val ∧ l.wf := by
  simp only [Value.okWide, Tryd.underlying22] at hv
  obtain ⟨cs, rfl, h2, _⟩ := hv
  obtain ⟨c0, c1, c2, c3, c4, c5, c6, c7, c8, rfl⟩ := nine (h2.trans (by kernel_rfl))
  obtain ⟨fuel, hf⟩ := h
  obtain ⟨xs, m, _, _, _, hl, hel⟩ := DataW.trod_array Tryd.underlying22 hf
  have hce : Tryd.prog.cellsOf 3 = 1 := by kernel_rfl
  obtain ⟨n0, e0, -, w0⟩ : ∃ n, [c0] = [Value.int .i64 n] ∧ True ∧ (Lit.int .i64 n).wf = true := by
    have h := hel 0 (by decide)
    rw [hce] at h
    obtain ⟨y, hy⟩ : ∃ y, xs[0]? = some y := ⟨xs[0]'(by omega), List.getElem?_eq_getElem _⟩
    rw [hy] at h
    obtain ⟨n, a, _, b⟩ := DataW.trod_int Tryd.underlying3 h
    exact ⟨n, a, trivial, b⟩
  have e0 : c0 = .int .i64 n0 := by simpa using e0
  subst e0
  obtain ⟨n1, e1, -, w1⟩ : ∃ n, [c1] = [Value.int .i64 n] ∧ True ∧ (Lit.int .i64 n).wf = true := by
    have h := hel 1 (by decide)
    rw [hce] at h
    obtain ⟨y, hy⟩ : ∃ y, xs[1]? = some y := ⟨xs[1]'(by omega), List.getElem?_eq_getElem _⟩
    rw [hy] at h
    obtain ⟨n, a, _, b⟩ := DataW.trod_int Tryd.underlying3 h
    exact ⟨n, a, trivial, b⟩
  have e1 : c1 = .int .i64 n1 := by simpa using e1
  subst e1
  obtain ⟨n2, e2, -, w2⟩ : ∃ n, [c2] = [Value.int .i64 n] ∧ True ∧ (Lit.int .i64 n).wf = true := by
    have h := hel 2 (by decide)
    rw [hce] at h
    obtain ⟨y, hy⟩ : ∃ y, xs[2]? = some y := ⟨xs[2]'(by omega), List.getElem?_eq_getElem _⟩
    rw [hy] at h
    obtain ⟨n, a, _, b⟩ := DataW.trod_int Tryd.underlying3 h
    exact ⟨n, a, trivial, b⟩
  have e2 : c2 = .int .i64 n2 := by simpa using e2
  subst e2
  obtain ⟨n3, e3, -, w3⟩ : ∃ n, [c3] = [Value.int .i64 n] ∧ True ∧ (Lit.int .i64 n).wf = true := by
    have h := hel 3 (by decide)
    rw [hce] at h
    obtain ⟨y, hy⟩ : ∃ y, xs[3]? = some y := ⟨xs[3]'(by omega), List.getElem?_eq_getElem _⟩
    rw [hy] at h
    obtain ⟨n, a, _, b⟩ := DataW.trod_int Tryd.underlying3 h
    exact ⟨n, a, trivial, b⟩
  have e3 : c3 = .int .i64 n3 := by simpa using e3
  subst e3
  obtain ⟨n4, e4, -, w4⟩ : ∃ n, [c4] = [Value.int .i64 n] ∧ True ∧ (Lit.int .i64 n).wf = true := by
    have h := hel 4 (by decide)
    rw [hce] at h
    obtain ⟨y, hy⟩ : ∃ y, xs[4]? = some y := ⟨xs[4]'(by omega), List.getElem?_eq_getElem _⟩
    rw [hy] at h
    obtain ⟨n, a, _, b⟩ := DataW.trod_int Tryd.underlying3 h
    exact ⟨n, a, trivial, b⟩
  have e4 : c4 = .int .i64 n4 := by simpa using e4
  subst e4
  obtain ⟨n5, e5, -, w5⟩ : ∃ n, [c5] = [Value.int .i64 n] ∧ True ∧ (Lit.int .i64 n).wf = true := by
    have h := hel 5 (by decide)
    rw [hce] at h
    obtain ⟨y, hy⟩ : ∃ y, xs[5]? = some y := ⟨xs[5]'(by omega), List.getElem?_eq_getElem _⟩
    rw [hy] at h
    obtain ⟨n, a, _, b⟩ := DataW.trod_int Tryd.underlying3 h
    exact ⟨n, a, trivial, b⟩
  have e5 : c5 = .int .i64 n5 := by simpa using e5
  subst e5
  obtain ⟨n6, e6, -, w6⟩ : ∃ n, [c6] = [Value.int .i64 n] ∧ True ∧ (Lit.int .i64 n).wf = true := by
    have h := hel 6 (by decide)
    rw [hce] at h
    obtain ⟨y, hy⟩ : ∃ y, xs[6]? = some y := ⟨xs[6]'(by omega), List.getElem?_eq_getElem _⟩
    rw [hy] at h
    obtain ⟨n, a, _, b⟩ := DataW.trod_int Tryd.underlying3 h
    exact ⟨n, a, trivial, b⟩
  have e6 : c6 = .int .i64 n6 := by simpa using e6
  subst e6
  obtain ⟨n7, e7, -, w7⟩ : ∃ n, [c7] = [Value.int .i64 n] ∧ True ∧ (Lit.int .i64 n).wf = true := by
    have h := hel 7 (by decide)
    rw [hce] at h
    obtain ⟨y, hy⟩ : ∃ y, xs[7]? = some y := ⟨xs[7]'(by omega), List.getElem?_eq_getElem _⟩
    rw [hy] at h
    obtain ⟨n, a, _, b⟩ := DataW.trod_int Tryd.underlying3 h
    exact ⟨n, a, trivial, b⟩
  have e7 : c7 = .int .i64 n7 := by simpa using e7
  subst e7
  obtain ⟨n8, e8, -, w8⟩ : ∃ n, [c8] = [Value.int .i64 n] ∧ True ∧ (Lit.int .i64 n).wf = true := by
    have h := hel 8 (by decide)
    rw [hce] at h
    obtain ⟨y, hy⟩ : ∃ y, xs[8]? = some y := ⟨xs[8]'(by omega), List.getElem?_eq_getElem _⟩
    rw [hy] at h
    obtain ⟨n, a, _, b⟩ := DataW.trod_int Tryd.underlying3 h
    exact ⟨n, a, trivial, b⟩
  have e8 : c8 = .int .i64 n8 := by simpa using e8
  subst e8
  exact ⟨⟨n0, n1, n2, n3, n4, n5, n6, n7, n8⟩, rfl, isI_wf w0, isI_wf w1, isI_wf w2, isI_wf w3, isI_wf w4, isI_wf w5, isI_wf w6, isI_wf w7, isI_wf w8⟩
end Go.Proofs.YtjhkgoppopfoaaaDoor
