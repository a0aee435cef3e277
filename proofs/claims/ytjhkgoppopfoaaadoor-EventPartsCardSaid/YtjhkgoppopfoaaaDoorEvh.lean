/-
  The walk of event.Parse.
-/
import Derived.Test.YtjhkgoppopfoaaaDoorEvw
import Derived.Test.YtjhkgoppopfoaaaDoorEvr
import Derived.Test.YtjhkgoppopfoaaaDoorEvd
import Derived.Deep.RegionHeld3
import Derived.Deep.RegionWith
import Derived.OwnWalk
import Derived.Deep.AppendLies
import Derived.Deep.RegionLaw
import Derived.Deep.DrawnRows
import Derived.Maps.AppendAt
namespace Go.Proofs.YtjhkgoppopfoaaaDoor
open Go.RowKit Go.Lib Go.Maps
set_option linter.unusedVariables false
set_option linter.unusedSimpArgs false

theorem ok_wf {e : Ev} (h : e.ok) : e.wf := by
  intro c
  by_cases hc : c = 1 ∨ c = 2 ∨ c = 3
  · by_cases hf : ∃ f ∈ fds e.k.toNat, f.c = c
    · obtain ⟨f, hf, rfl⟩ := hf
      have := ok_range h f hf
      omega
    · have := h.2.2 c hc (fun f hm he => hf ⟨f, hm, he⟩)
      omega
  · have h0 : c = 0 ∨ 4 ≤ c := by omega
    have h1 := h.1
    rcases h0 with rfl | h4
    · show _ ≤ e.k ∧ e.k ≤ _
      omega
    · have e3 : e.at c = e.at 3 := by
        unfold Ev.at
        split <;> first | omega | rfl
      rw [e3]
      by_cases hf : ∃ f ∈ fds e.k.toNat, f.c = 3
      · obtain ⟨f, hf, hc⟩ := hf
        have := ok_range h f hf
        rw [hc] at this
        omega
      · have := h.2.2 3 (by omega) (fun f hm he => hf ⟨f, hm, he⟩)
        omega
theorem ecut_hit (a b : Bs) (ha : (10 : UInt8) ∉ a) (w : World) (g : Gd w) (hs : (a ++ 10 :: b).length ≤ 1048576) :
    Calls Tryd.prog 54 #[.string ⟨(a ++ 10 :: b).toArray⟩, .string ⟨#[10]⟩] w fun e w' => e = .returned (.tuple #[.string ⟨a.toArray⟩, .string ⟨b.toArray⟩, .bool true]) ∧ Below w.heap.size w w' := by
  obtain ⟨m, hm⟩ := g.mx
  refine (Tryd.strings_Cut ⟨(a ++ 10 :: b).toArray⟩ ⟨#[10]⟩ m w (by simp only [ByteArray.size, List.size_toArray]; omega) hm).mono ?_
  rintro e w' ⟨rfl, n, rfl⟩
  have := cut_hit 10 a b ha
  refine ⟨?_, below_drawn ⟨n, rfl⟩⟩
  rw [this]
theorem ecut_no (a : Bs) (ha : (10 : UInt8) ∉ a) (w : World) (g : Gd w) (hs : a.length ≤ 1048576) :
    Calls Tryd.prog 54 #[.string ⟨a.toArray⟩, .string ⟨#[10]⟩] w fun e w' => e = .returned (.tuple #[.string ⟨a.toArray⟩, .string ⟨#[]⟩, .bool false]) ∧ Below w.heap.size w w' := by
  obtain ⟨m, hm⟩ := g.mx
  refine (Tryd.strings_Cut ⟨a.toArray⟩ ⟨#[10]⟩ m w (by simp only [ByteArray.size, List.size_toArray]; omega) hm).mono ?_
  rintro e w' ⟨rfl, n, rfl⟩
  have := cut_no 10 a ha
  refine ⟨?_, below_drawn ⟨n, rfl⟩⟩
  rw [this]
theorem eread_yes (s : ByteArray) (line : Int) (e : Ev) (w : World) (g : Gd w) (hs : s.size ≤ 1048576) (h : readW (spl 32 s.data.toList) = some e) :
    Calls Tryd.prog 55 #[.string s, .int .i64 line] w fun x w' => x = .returned e.val ∧ Below w.heap.size w w' := by
  refine (eread_any s line w g hs).mono ?_
  rintro x w' ⟨⟨e', he, rfl⟩ | ⟨hn, _⟩, hb⟩
  · rw [h] at he
    obtain rfl := Option.some.inj he
    exact ⟨rfl, hb⟩
  · rw [h] at hn; cases hn
theorem eread_no (s : ByteArray) (line : Int) (w : World) (g : Gd w) (hs : s.size ≤ 1048576) (h : readW (spl 32 s.data.toList) = none) :
    Calls Tryd.prog 55 #[.string s, .int .i64 line] w fun x w' => x = .panicked [{ v := brk line 4, recovered := false }] ∧ Below w.heap.size w w' := by
  refine (eread_any s line w g hs).mono ?_
  rintro x w' ⟨⟨e', he, rfl⟩ | ⟨hn, rfl⟩, hb⟩
  · rw [h] at he; cases he
  · exact ⟨rfl, hb⟩
/-- What event.Parse answers. -/
def PaE (s : Bs) (x : Ending) (w' : World) : Prop :=
  (∃ a cap es, x = .returned (.tuple #[.slice a es.length cap, .int .i64 0, .int .i64 0]) ∧ parseE s = .ok es ∧ IsEvs w' a es.length 4 (zOf es)) ∨ ∃ k : Nat, x = .returned (.tuple #[.slice none 0 0, .int .i64 (k : Int), .int .i64 4]) ∧ parseE s = .error k
/-- What stands while the lines are read: the three results' cells, the list. -/
structure PrAt (w wr : World) (b : Nat) (v : Value) (es : List Ev) : Prop where
  c2 : wr.heap[b]? = some (.cells #[v] 41 (0, 0))
  c3 : wr.heap[b + 1]? = some (.cells #[.int .i64 0] 3 (0, 0))
  c4 : wr.heap[b + 1 + 1]? = some (.cells #[.int .i64 0] 28 (0, 0))
  own : wr.ownsRow (b + 3) 52 4 v es.length (flatE es)
  bel : Below w.heap.size w wr
  low : w.heap.size ≤ b
  ok : ∀ e ∈ es, e.ok
theorem own_keep {w w' : World} {B : Nat} {e : TypeId} {size n : Nat} {v : Value} {xs : List Value} (h : w.ownsRow B e size v n xs) (hb : Below w.heap.size w w') : w'.ownsRow B e size v n xs :=
  h.kept (row := none) ⟨hb.os, hb.tape, hb.output, hb.size, fun k hk _ => hb.block k hk⟩ (by cases v.ownBlock <;> simp)
theorem PrAt.keep {w wr w' : World} {b : Nat} {v : Value} {es : List Ev} (h : PrAt w wr b v es) (hb : Below wr.heap.size wr w') : PrAt w w' b v es :=
  ⟨keep_heap hb h.c2, keep_heap hb h.c3, keep_heap hb h.c4, own_keep h.own hb, below_after h.bel hb, h.low, h.ok⟩
def PrRel (w : World) (b : Nat) (s : Bs) (x : Value) (wr : World) : Prop := ∃ t v es, x = .string ⟨t.toArray⟩ ∧ s = textE es ++ t ∧ PrAt w wr b v es
theorem prat_len {s t : Bs} {es : List Ev} (h : s = textE es ++ t) (hok : ∀ e ∈ es, e.ok) (hc : s.count 10 < 4000) : es.length < 4000 := by
  rw [h, List.count_append, textE_count es hok] at hc
  omega
def strN : Value → Nat
  | .string s => s.size
  | _ => 0
theorem own_set {w : World} {B b i : Nat} {e t : TypeId} {size n : Nat} {v x : Value} {xs : List Value} {cs : Array Value} {f : Nat × Nat} (h : w.ownsRow B e size v n xs) (hb : w.heap[b]? = some (.cells cs t f)) (hlt : b < B) : (w.setCell ⟨b, i, none⟩ x).ownsRow B e size v n xs := by
  refine h.kept (row := some b) ⟨rfl, rfl, rfl, by simp [World.setCell], fun j hj hne => ?_⟩ ?_
  · have hne' : b ≠ j := fun e => hne (by rw [e])
    simp [World.setCell, Array.getElem?_modify, hne']
  · cases hv : v.ownBlock with
    | none => exact Or.inl rfl
    | some k =>
      right
      have := (h.lt k hv).1
      simp; omega
theorem PrAt.push {w w2 w3 : World} {b : Nat} {v v' : Value} {es : List Ev} {e : Ev} {o : Obj} (h : PrAt w w2 b v es) (hok : e.ok) (hown : w3.ownsRow (b + 3) 52 4 v' (es.length + 1) (flatE es ++ e.cells.toList)) (hg : (w2.alloc o).grownBy w3 v.ownBlock) :
    PrAt w (w3.setCell ⟨b, 0, none⟩ v') b v' (es ++ [e]) ∧ w3.cell? ⟨b, 0, none⟩ = some v ∧ w3.frozen? ⟨b, 0, none⟩ = false := by
  have hown0 := h.own
  have hne : ∀ j, j < b + 3 → some j ≠ v.ownBlock := by
    intro j hj he
    have := (hown0.lt j he.symm).1
    omega
  have a2 := keep_heap (below_alloc1 w2 o) h.c2
  have a3 := keep_heap (below_alloc1 w2 o) h.c3
  have a4 := keep_heap (below_alloc1 w2 o) h.c4
  have d2 := (hg.block b (lt_of_heap a2) (hne b (by omega))).trans a2
  have d3 := (hg.block (b + 1) (lt_of_heap a3) (hne (b + 1) (by omega))).trans a3
  have d4 := (hg.block (b + 1 + 1) (lt_of_heap a4) (hne (b + 1 + 1) (by omega))).trans a4
  refine ⟨⟨fblk 0 d2 v', oblk d2 d3 (by decide), oblk d2 d4 (by decide), ?_, ?_, h.low, ?_⟩, ecell (i := 0) d2 rfl, efree d2 0⟩
  · have := own_set (x := v') (i := 0) hown d2 (by omega)
    rw [List.length_append, flatE_app]
    simpa [flatE] using this
  · have hl := h.low
    have hb := h.bel
    have hb2 := (below_after hb (below_alloc1 w2 o)).grown hg (by have := hb.size; simp; omega) (fun k hk => by have := (hown0.lt k hk).1; omega)
    exact hb2.setCell (p := ⟨b, 0, none⟩) hl v'
  · intro x hx
    rcases List.mem_append.1 hx with hx | hx
    · exact h.ok x hx
    · rw [List.mem_singleton.1 hx]; exact hok
theorem Tryd.info52 : (Tryd.prog.info? 52).map (fun i => (i.zero, i.size, i.bytes)) = some (some (.agg #[.int .i64 0, .int .i64 0, .int .i64 0, .int .i64 0]), 4, 32) := by kernel_rfl
/-- Behind the deferred closure: the three results' cells. -/
structure BrAt (w w' : World) (b : Nat) (n er : Int) : Prop where
  c2 : w'.cell? ⟨b, 0, none⟩ = some (.slice none 0 0)
  c3 : w'.cell? ⟨b + 1, 0, none⟩ = some (.int .i64 n)
  c4 : w'.cell? ⟨b + 1 + 1, 0, none⟩ = some (.int .i64 er)
  bel : Below w.heap.size w w'
theorem PrAt.broken {w wr : World} {b : Nat} {v : Value} {es : List Ev} (h : PrAt w wr b v es) (n er : Int) :
    BrAt w ((((wr.setCell ⟨b, 0, none⟩ (.slice none 0 0)).setCell ⟨b + 1, 0, none⟩ (.int .i64 n)).setCell ⟨b + 1 + 1, 0, none⟩ (.int .i64 er)).alloc (.cells #[.int .i64 n, .int .i64 er] 95)).drew b n er := by
  have a2 := fblk 0 h.c2 (.slice none 0 0)
  have a3 := oblk h.c2 h.c3 (by decide) (i := 0) (v := .slice none 0 0)
  have a4 := oblk h.c2 h.c4 (by decide) (i := 0) (v := .slice none 0 0)
  have b2 := oblk a3 a2 (by decide) (i := 0) (v := .int .i64 n)
  have b3 := fblk 0 a3 (.int .i64 n)
  have b4 := oblk a3 a4 (by decide) (i := 0) (v := .int .i64 n)
  have d2 := oblk b4 b2 (by decide) (i := 0) (v := .int .i64 er)
  have d3 := oblk b4 b3 (by decide) (i := 0) (v := .int .i64 er)
  have d4 := fblk 0 b4 (.int .i64 er)
  have hl := h.low
  have e2 := keep_heap (below_alloc1 _ (.cells #[.int .i64 n, .int .i64 er] 95)) d2
  have e3 := keep_heap (below_alloc1 _ (.cells #[.int .i64 n, .int .i64 er] 95)) d3
  have e4 := keep_heap (below_alloc1 _ (.cells #[.int .i64 n, .int .i64 er] 95)) d4
  refine ⟨ecell (i := 0) e2 rfl, ecell (i := 0) e3 rfl, ecell (i := 0) e4 rfl, ?_⟩
  exact below_after (below_after (((h.bel.setCell (p := ⟨b, 0, none⟩) (by simpa using hl) _).setCell (p := ⟨b + 1, 0, none⟩) (by show _ ≤ b + 1; omega) _).setCell (p := ⟨b + 1 + 1, 0, none⟩) (by show _ ≤ b + 1 + 1; omega) _) (below_alloc1 _ _)) (below_drewN (Below.refl _ _) 1)
theorem leaves_congr {P : Program} {fn : Func} {t1 t2 : Array Value} {R : Ending → World → Prop} (h : results fn t1 = results fn t2) : ∀ (ds : List Deferred) (u : FrameMode) (w : World), Leaves P fn t1 R ds u w → Leaves P fn t2 R ds u w
  | [], .returning, w, hl => by
    obtain ⟨v, hv, hR⟩ := hl
    exact ⟨v, by rw [← h]; exact hv, hR⟩
  | [], .panicking chain, w, hl => hl
  | [], .run, w, hl => hl
  | d :: ds, u, w, hl => by
    obtain ⟨hu, fv, cap, f, args, h1, h2, h3⟩ := hl
    refine ⟨hu, fv, cap, f, args, h1, h2, h3.mono ?_⟩
    intro e u' w' he
    cases e with
    | returned v => exact leaves_congr h ds _ _ he
    | panicked c => exact leaves_congr h ds _ _ he
    | outgrown => exact he
/-- What a panic leaves behind does not hang on slots behind the fifth. -/
theorem door_put (R : Ending → World → Prop) (d : Nat) (v : Value) (hd : 4 < d) (c : List PanicEntry) (a : Act) (w : World) (h : bodyPostD Tryd.prog Tryd.f23 R (.panic c) (a.put (some d) v) w) : bodyPostD Tryd.prog Tryd.f23 R (.panic c) a w := by
  refine leaves_congr ?_ a.defers (.panicking c) w h
  have e : ∀ i, i ≤ 4 → (a.put (some d) v).tmps[i]?.getD undef = a.tmps[i]?.getD undef := by
    intro i hi
    have hne : d ≠ i := by omega
    simp [Act.put, Array.getElem?_setIfInBounds, hne]
  unfold results
  rw [Tryd.results23]
  simp [e 2 (by omega), e 3 (by omega), e 4 (by omega)]
set_option maxRecDepth 100000 in
set_option maxHeartbeats 8000000 in
theorem eparse_any (s : ByteArray) (w : World) (g : Gd w) (hs : s.size ≤ 1048576) (hc : s.data.toList.count 10 < 4000) :
    Calls Tryd.prog 23 #[.string s] w fun x w' => PaE s.data.toList x w' ∧ Below w.heap.size w w' := by
  obtain ⟨i0, hi, hz0, hz1, hz2⟩ := info_parts Tryd.info52
  have hmf : ∀ (fn : Fn) (first cap : Array Value) (w : World), (Instr.makeFunc fn first cap).run Tryd.prog w = .ok (.func fn first cap) w := fun _ _ _ _ => rfl
  have hsz : ¬ (1048576 : Int) < (s.size : Int) := by omega
  have hA0 : PrAt w (((w.alloc (.cells #[.slice none 0 0] 41)).alloc (.cells #[.int .i64 0] 3)).alloc (.cells #[.int .i64 0] 28)) w.heap.size (.slice none 0 0) [] :=
    ⟨keep_heap (below_alloc1 _ _) (keep_heap (below_alloc1 _ _) (heap_at _ rfl)), keep_heap (below_alloc1 _ _) (heap_at _ (by simp)), heap_at _ (by simp), World.ownsRow_nil _ _ _ _, below_after (below_after (below_alloc1 _ _) (below_alloc1 _ _)) (below_alloc1 _ _), Nat.le_refl _, by simp⟩
  go_enter_defers Tryd.func23, Tryd.ntmps23
  go_wp2_with fail
  obtain ⟨W, hW⟩ : ∃ W, W = ((w.alloc (.cells #[.slice none 0 0] 41)).alloc (.cells #[.int .i64 0] 3)).alloc (.cells #[.int .i64 0] 28) := ⟨_, rfl⟩
  obtain ⟨b, hbe⟩ : ∃ b, b = w.heap.size := ⟨_, rfl⟩
  rw [← hW, ← hbe] at hA0
  rw [← hW, ← hbe]
  clear hW hbe
  go_loopw [0] (fun x wr => PrRel w b s.data.toList x wr) (fun x _ => strN x)
  case atStart => exact ⟨s.data.toList, _, [], by rw [mk_data], by simp [textE], hA0⟩
  case round =>
    clear hA0
    obtain ⟨t, v, es, rfl, hse, hA⟩ := hrel
    have hlen := prat_len hse hA.ok hc
    obtain ⟨hl0, a, cap, rfl, hE⟩ := evs_of_own hA.own (fun e he => ok_wf (hA.ok e he))
    have g1 := g.keep hA.bel
    have htl : t.length ≤ 1048576 := by
      have := congrArg List.length hse
      have e : s.data.toList.length = s.size := (size_eq s).symm
      rw [List.length_append] at this
      omega
    have HA := hide hA
    have HSE := hide hse
    have c2 := ecell (i := 0) hA.c2 rfl
    have c3 := ecell (i := 0) hA.c3 rfl
    have c4 := ecell (i := 0) hA.c4 rfl
    have f2 := efree hA.c2 0
    have f3 := efree hA.c3 0
    have f4 := efree hA.c4 0
    clear hA hse
    by_cases ht : t = []
    · subst ht
      go_wp2_with fail
      rw [eset_id (i := 0) (v := .slice a es.length cap) HA.out.c2 rfl, eset_id (i := 0) (v := .int .i64 0) HA.out.c3 rfl, eset_id (i := 0) (v := .int .i64 0) HA.out.c4 rfl]
      refine leaves_cons (f := 53) (args := #[.pointer (some ⟨b, 0, none⟩), .pointer (some ⟨b + 1, 0, none⟩), .pointer (some ⟨b + 1 + 1, 0, none⟩)]) (by simp) (by simp [go_sem]) ?_
      refine (catch_idle _ _ _ _).mono ?_
      rintro e u' w'' ⟨rfl, rfl, rfl⟩
      simp [Leaves, settle, results, Tryd.results23, go_sem, c2, c3, c4]
      refine ⟨Or.inl ⟨a, cap, es, rfl, ?_, hE⟩, HA.out.bel⟩
      rw [HSE.out, List.append_nil]
      exact parse_text_ok es HA.out.ok
    · have hne : List.isEmpty t = false := by cases t <;> simp_all
      clear ht c2 c3 c4 f2 f3 f4
      by_cases h10 : (10 : UInt8) ∈ t
      · obtain ⟨a', b', rfl, ha, -⟩ := spl_hit 10 _ h10
        clear h10
        go_wp2_with fail
        refine (ecut_hit a' b' ha _ g1 htl).mono ?_; rintro e w1 ⟨rfl, hb1⟩
        have HA1 := hide (HA.out.keep hb1)
        have g2 := g1.keep hb1
        have c2 := ecell (i := 0) HA1.out.c2 rfl
        have hl4 : ((es.length : Int) == 4000) = false := beq_eq_false_iff_ne.2 (by omega)
        go_upto_region 10 with (fail)
        have hw1 : IntKind.i64.wrap ((es.length : Int) + 1) = (es.length : Int) + 1 := IntWalk.i64_in _ (by omega)
        have hal : (⟨a'.toArray⟩ : ByteArray).size ≤ 1048576 := by simp only [ByteArray.size, List.size_toArray]; simp only [List.length_append] at htl; omega
        have HA2 := hide (HA1.out.keep (below_drew1 w1))
        have g3 := g2.keep (below_drew1 w1)
        cases hrd : readW (spl 32 a') with
        | none =>
          have HR := hide hrd
          have hpe : parseE s.data.toList = .error (es.length + 1) := by
            unfold parseE
            rw [HSE.out, parse_app es HA.out.ok, readsE_cut a' b' ha, hrd]
            simp
          have HP := hide hpe
          clear hrd hpe
          have c2d := ecell (i := 0) HA2.out.c2 rfl
          refine wp_region_held_drew (S := fun w' => w'.cell? ⟨b, 0, none⟩ = some (.slice a es.length cap)) (by kernel_rfl) c2d (fun hHeld => ?_)
          refine wpAnyH_take (i := 0) (v := .slice a es.length cap) rfl (by kernel_rfl) (by kernel_rfl) (by kernel_rfl) (fun c a w h => door_put _ 35 _ (by decide) c a w h) (Or.inl ⟨by rfl, ?_⟩) (by assumption) ?_
          · intro w hSw
            go_simp
          simp only [Act.put, List.setIfInBounds_toArray, List.set_cons_zero, List.set_cons_succ]
          refine wpAnyH_take (i := 1) (v := Value.string ⟨a'.toArray⟩) rfl (by kernel_rfl) (by kernel_rfl) (by kernel_rfl) (fun c a w h => door_put _ 36 _ (by decide) c a w h) (Or.inl ⟨by rfl, ?_⟩) (by assumption) ?_
          · intro w hSw
            go_simp
          simp only [Act.put, List.setIfInBounds_toArray, List.set_cons_zero, List.set_cons_succ]
          refine wpAnyH_take (i := 2) (v := .slice a es.length cap) rfl (by kernel_rfl) (by kernel_rfl) (by kernel_rfl) (fun c a w h => door_put _ 37 _ (by decide) c a w h) (Or.inl ⟨by rfl, ?_⟩) (by assumption) ?_
          · intro w hSw
            go_simp
          simp only [Act.put, List.setIfInBounds_toArray, List.set_cons_zero, List.set_cons_succ]
          refine wpAnyH_take (i := 3) (v := .int .i64 (es.length : Int)) rfl (by kernel_rfl) (by kernel_rfl) (by kernel_rfl) (fun c a w h => door_put _ 38 _ (by decide) c a w h) (Or.inl ⟨by rfl, ?_⟩) (by assumption) ?_
          · intro w hSw
            go_simp
          simp only [Act.put, List.setIfInBounds_toArray, List.set_cons_zero, List.set_cons_succ]
          refine wpAnyH_take (i := 4) (v := .int .i64 ((es.length : Int) + 1)) rfl (by kernel_rfl) (by kernel_rfl) (by kernel_rfl) (fun c a w h => door_put _ 39 _ (by decide) c a w h) (Or.inl ⟨by rfl, ?_⟩) (by assumption) ?_
          · intro w hSw
            go_simp
          simp only [Act.put, List.setIfInBounds_toArray, List.set_cons_zero, List.set_cons_succ]
          refine wpAnyH_take (i := 8) (v := Value.string ⟨b'.toArray⟩) rfl (by kernel_rfl) (by kernel_rfl) (by kernel_rfl) (fun c a w h => door_put _ 43 _ (by decide) c a w h) (Or.inl ⟨by rfl, ?_⟩) (by assumption) ?_
          · intro w hSw
            go_simp
          simp only [Act.put, List.setIfInBounds_toArray, List.set_cons_zero, List.set_cons_succ]
          refine wpAnyH_ready (rs := [5]) (by kernel_rfl) (by simp) ?_
          refine AllReadyH.cons rfl (fun K hK => ?_) AllReadyH.nil
          go_simp
          refine (eread_no ⟨a'.toArray⟩ ((es.length : Int) + 1) _ g3 hal HR.out).mono ?_; rintro x w2 ⟨rfl, hb2⟩
          have HA3 := hide (HA2.out.keep hb2)
          simp only
          refine leaves_cons (f := 53) (args := #[.pointer (some ⟨b, 0, none⟩), .pointer (some ⟨b + 1, 0, none⟩), .pointer (some ⟨b + 1 + 1, 0, none⟩)]) (by simp) (by simp [go_sem]) ?_
          refine (catch_broken b (b + 1) (b + 1 + 1) ((es.length : Int) + 1) 4 _ _ _ [] _ HA3.out.c2 HA3.out.c3 HA3.out.c4).mono ?_
          rintro e u' w'' ⟨rfl, rfl, rfl⟩
          have hB := HA3.out.broken ((es.length : Int) + 1) 4
          generalize (World.alloc _ _).drew = W' at hB ⊢
          obtain ⟨k2, k3, k4, hbe⟩ := hB
          simp [Leaves, settle, results, Tryd.results23, go_sem, k2, k3, k4]
          exact ⟨Or.inr ⟨es.length + 1, by simp, HP.out⟩, hbe⟩
        | some e =>
          obtain ⟨hok, hle⟩ := readW_iff.1 hrd
          have HR := hide hrd
          have HO := hide hok
          have HN : Hid (s.data.toList = textE (es ++ [e]) ++ b') := hide (by
            rw [HSE.out, textE_app]
            simp [textE, hle])
          clear hrd hok hle
          obtain ⟨k, sp, nu, n⟩ := e
          have HC : Hid (∀ w, Gd w → Calls Tryd.prog 55 #[.string ⟨a'.toArray⟩, .int .i64 ((es.length : Int) + 1)] w fun x w' => x = .returned (.agg #[.int .i64 k, .int .i64 sp, .int .i64 nu, .int .i64 n]) ∧ Below w.heap.size w w') := hide (fun w g => eread_yes ⟨a'.toArray⟩ ((es.length : Int) + 1) ⟨k, sp, nu, n⟩ w g hal HR.out)
          have c2d := ecell (i := 0) HA2.out.c2 rfl
          refine wp_region_noPanic ?_
          go_region_law
            (first
              | (refine step_append_lies _ (by rfl) _ _ 41 (by rfl) (b + 3) 52 i0 (.agg #[.int .i64 0, .int .i64 0, .int .i64 0, .int .i64 0]) 4 32 Tryd.underlying41 hi hz0 hz1 hz2 (by rfl) (by decide) (.slice a es.length cap) es.length (flatE es) (by rfl) (HA3.out.own.alloc _) ⟨w2.heap.size, 0, none⟩ 1 1 [.int .i64 k, .int .i64 sp, .int .i64 nu, .int .i64 n] (by rfl) (by rfl) (World.news_of_block (heap_at _ rfl)) (by simp [Value.oneCell']) (by omega) (by unfold maxLen; omega) (by omega) (by have := lt_of_heap HA3.out.c4; simp; omega) _ rfl ?_; intro g' cap' w3 hown3 hgrow3 hat3 hlt3; have HX := hide (HA3.out.push (e := ⟨k, sp, nu, n⟩) HO.out hown3 hgrow3); have c2g := HX.out.2.1; have f2g := HX.out.2.2)
              | (go_simp; go_at_call 55; refine (HC.out _ g3).mono ?_; rintro x w2 ⟨rfl, hb2⟩; have HA3 := hide (HA2.out.keep hb2); have c2e := ecell (i := 0) HA3.out.c2 rfl; have c2f := ecell (i := 0) (keep_heap (below_alloc1 w2 (.cells #[.int .i64 k, .int .i64 sp, .int .i64 nu, .int .i64 n] 52)) HA3.out.c2) rfl))
          all_goals
            unfold NoPanic
            go_wp2_with fail
            go_roundw
            case rel => exact ⟨b', _, es ++ [⟨k, sp, nu, n⟩], rfl, HN.out, HX.out.1⟩
            case measure => simp [strN, ByteArray.size]; omega
      · have hpe : parseE s.data.toList = .error (es.length + 1) := by
          unfold parseE
          rw [HSE.out, parse_app es HA.out.ok, readsE_none t h10, if_neg (by rintro rfl; cases hne)]
          simp
        have HP := hide hpe
        clear hpe
        go_wp2_with fail
        refine (ecut_no t h10 _ g1 htl).mono ?_; rintro e w1 ⟨rfl, hb1⟩
        have hA1 := HA.out.keep hb1
        have HA1 := hide hA1
        have c2 := ecell (i := 0) hA1.c2 rfl
        have hw1 : IntKind.i64.wrap ((es.length : Int) + 1) = (es.length : Int) + 1 := IntWalk.i64_in _ (by omega)
        have hl4 : ((es.length : Int) == 4000) = false := beq_eq_false_iff_ne.2 (by omega)
        clear hA1
        go_wp2_with fail
        refine leaves_cons (f := 53) (args := #[.pointer (some ⟨b, 0, none⟩), .pointer (some ⟨b + 1, 0, none⟩), .pointer (some ⟨b + 1 + 1, 0, none⟩)]) (by simp) (by simp [go_sem]) ?_
        refine (catch_broken b (b + 1) (b + 1 + 1) ((es.length : Int) + 1) 4 _ _ _ [] _ HA1.out.c2 HA1.out.c3 HA1.out.c4).mono ?_
        rintro e u' w'' ⟨rfl, rfl, rfl⟩
        have hB := HA1.out.broken ((es.length : Int) + 1) 4
        generalize (World.alloc _ _).drew = W' at hB ⊢
        obtain ⟨k2, k3, k4, hbe⟩ := hB
        simp [Leaves, settle, results, Tryd.results23, go_sem, k2, k3, k4]
        exact ⟨Or.inr ⟨es.length + 1, by simp, HP.out⟩, hbe⟩
end Go.Proofs.YtjhkgoppopfoaaaDoor
