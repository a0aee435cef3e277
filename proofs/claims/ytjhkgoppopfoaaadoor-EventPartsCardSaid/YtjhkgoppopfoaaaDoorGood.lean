/-
  What the library reads of its own variables, as one fact on a world; Atoi, Itoa, words and number by it.
-/
import Derived.Test.YtjhkgoppopfoaaaDoorCheck
import Derived.Test.YtjhkgoppopfoaaaDoorShelf
namespace Go.Proofs.YtjhkgoppopfoaaaDoor
open Go.RowKit Go.Lib
set_option linter.unusedVariables false
set_option linter.unusedSimpArgs false

/-- The variables of the library's own that its functions read. -/
structure Gd (w : World) : Prop where
  tab : TabIs Tryd.prog w "internal/strconv.uint64pow10" .u64 pow10Tab
  syn : ∃ tp p, w.var? Tryd.prog "strconv.ErrSyntax" = some #[.iface tp p]
  rng : ∃ tp p, w.var? Tryd.prog "strconv.ErrRange" = some #[.iface tp p]
  mx : ∃ m, w.cell? ⟨0, 0, none⟩ = some (.int .i64 m)
  sz : 8 ≤ w.heap.size
theorem gTab : Tryd.prog.globalNamed "internal/strconv.uint64pow10" = some 3 := by kernel_rfl
theorem gSyn : Tryd.prog.globalNamed "strconv.ErrSyntax" = some 4 := by kernel_rfl
theorem gRng : Tryd.prog.globalNamed "strconv.ErrRange" = some 5 := by kernel_rfl
theorem Gd.keepB {B : Nat} {w w' : World} (h : Gd w) (hb : Below B w w') (hB : 8 ≤ B) : Gd w' := by
  obtain ⟨t, ⟨tp, p, s⟩, ⟨tq, q, r⟩, ⟨m, mx⟩, sz⟩ := h
  refine ⟨var?_below hb gTab (by omega) t, ⟨tp, p, var?_below hb gSyn (by omega) s⟩, ⟨tq, q, var?_below hb gRng (by omega) r⟩, ⟨m, ?_⟩, Nat.le_trans sz hb.size⟩
  rw [hb.cell (p := ⟨0, 0, none⟩) (by show 0 < B; omega)]; exact mx
theorem Gd.keep {w w' : World} (h : Gd w) (hb : Below w.heap.size w w') : Gd w' := h.keepB hb h.sz
theorem Gd.box {w : World} (h : Gd w) (o : Obj) : Gd (w.alloc o) := h.keep (below_alloc1 w o)
theorem Gd.drewN {w : World} (h : Gd w) (n : Nat) : Gd (w.drewN n) := h.keep (below_drawn ⟨n, rfl⟩)

theorem below_grow {w w' : World} (h : ∃ k os, w' = Sort.grow (w.drewN k) os) : Below w.heap.size w w' := by
  obtain ⟨k, os, rfl⟩ := h
  exact Below.trans (below_drawn ⟨k, rfl⟩) ⟨rfl, rfl, rfl, by simp, fun j hj => Sort.heap_grow_old _ os hj⟩
theorem itoa_any (n : Int) (h0 : -9223372036854775808 ≤ n) (h1 : n ≤ 9223372036854775807) (w : World) (g : Gd w) :
    Calls Tryd.prog 45 #[.int .i64 n] w fun e w' => e = .returned (.string ⟨(itoa n).toArray⟩) ∧ Below w.heap.size w w' :=
  (Tryd.strconv_Itoa n h0 h1 w g.tab).mono fun e w' ⟨a, b⟩ => ⟨a, below_grow b⟩
/-- What Atoi hands back: the number, and whether its error is nil. -/
def atoiV (l : Bs) : Int := match atoiAll l with | .ok v => v | .range => atoiSat l | _ => 0
def AtoiEnd (l : Bs) (w : World) (e : Ending) (w' : World) : Prop :=
  ((∃ v, atoiAll l = .ok v ∧ e = .returned (.tuple #[.int .i64 v, .nilIface])) ∨ ((∀ v, atoiAll l ≠ .ok v) ∧ ∃ v N, e = .returned (.tuple #[.int .i64 v, .iface 148 (.pointer (some ⟨N, 0, none⟩))]))) ∧ Below w.heap.size w w'
theorem below_bytes {w w' : World} (h : w' = w ∨ ∃ t, w' = bytesWorld w 5 t) : Below w.heap.size w w' := by
  rcases h with rfl | ⟨t, rfl⟩
  · exact Below.refl _ _
  · exact bytesWorld_below w 5 t
theorem atoi_any (s : ByteArray) (w : World) (g : Gd w) (hs : s.size ≤ 281474976710656) : Calls Tryd.prog 89 #[.string s] w (AtoiEnd s.data.toList w) := by
  cases h : atoiAll s.data.toList with
  | ok v => exact (Tryd.strconv_Atoi_ok s (by omega) v h w).mono fun e w' ⟨a, b⟩ => ⟨Or.inl ⟨v, h, a⟩, below_bytes b⟩
  | range =>
    obtain ⟨tp, p, hv⟩ := g.rng
    exact (Tryd.strconv_Atoi_range_var s hs h tp p w hv).mono fun e w' ⟨N, a, _, _, b⟩ => ⟨Or.inr ⟨fun v hv => (by rw [h] at hv; cases hv), _, N, a⟩, b⟩
  | _ =>
    obtain ⟨tp, p, hv⟩ := g.syn
    exact (Tryd.strconv_Atoi_syntax_var s hs (h.trans (by rfl)) tp p w hv).mono fun e w' ⟨N, a, _, _, b⟩ => ⟨Or.inr ⟨fun v hv => (by rw [h] at hv; cases hv), _, N, a⟩, b⟩
theorem mk_data (s : ByteArray) : (⟨s.data.toList.toArray⟩ : ByteArray) = s := by cases s; rfl
/-- What number hands back of a word: the number and true, or any number and false. -/
def NumberEnd (l : Bs) (w : World) (e : Ending) (w' : World) : Prop :=
  (∃ v : Int, e = .returned (.tuple #[.int .i64 v, .bool (numP l).isSome]) ∧ ∀ n, numP l = some n → v = (n : Int)) ∧ Below w.heap.size w w'
theorem numP_of_bad {l : Bs} (h : ∀ v, atoiAll l ≠ .ok v) : numP l = none := by
  unfold numP
  split
  · rename_i v hv; exact absurd hv (h v)
  · rfl
theorem numP_of_ok {l : Bs} {v : Int} (h : atoiAll l = .ok v) : numP l = if 0 ≤ v ∧ l.length ≤ 16 ∧ itoa v = l then some v.toNat else none := by
  unfold numP
  rw [h]
theorem numP_pick {l : Bs} {v : Int} {b : Bool} (h : atoiAll l = .ok v) (hb : b = decide (0 ≤ v ∧ l.length ≤ 16 ∧ itoa v = l)) : (numP l).isSome = b ∧ ∀ n, numP l = some n → v = (n : Int) := by
  rw [numP_of_ok h, hb]
  by_cases hc : 0 ≤ v ∧ l.length ≤ 16 ∧ itoa v = l
  · rw [if_pos hc]
    refine ⟨by simp [hc], fun n hn => ?_⟩
    have := Option.some.inj hn
    omega
  · rw [if_neg hc]
    exact ⟨by simp [hc], fun n hn => by cases hn⟩
theorem num_close {l : Bs} {v : Int} {b : Bool} {w w' : World} (h : atoiAll l = .ok v) (hb : b = decide (0 ≤ v ∧ l.length ≤ 16 ∧ itoa v = l)) (hw : Below w.heap.size w w') : NumberEnd l w (.returned (.tuple #[.int .i64 v, .bool b])) w' := by
  obtain ⟨a, c⟩ := numP_pick h hb
  exact ⟨⟨v, by rw [a], c⟩, hw⟩
theorem num_bad {l : Bs} {v : Int} {w w' : World} (h : ∀ v, atoiAll l ≠ .ok v) (hw : Below w.heap.size w w') : NumberEnd l w (.returned (.tuple #[.int .i64 v, .bool false])) w' :=
  ⟨⟨v, by rw [numP_of_bad h]; rfl, fun n hn => by rw [numP_of_bad h] at hn; cases hn⟩, hw⟩
set_option maxHeartbeats 1000000 in
theorem number_any (s : ByteArray) (w : World) (g : Gd w) (hs : s.size ≤ 281474976710656) : Calls Tryd.prog 52 #[.string s] w (NumberEnd s.data.toList w) := by
  by_cases hok : ∃ v, atoiAll s.data.toList = .ok v
  · obtain ⟨v, hv⟩ := hok
    have HV := hide hv
    have hvb := atoiAll_bounds hv
    clear hv
    go_enter Tryd.func52, Tryd.ntmps52
    go_wp2_with fail
    refine (atoi_any s _ g hs).mono ?_
    rintro e w1 ⟨⟨v', hv', rfl⟩ | ⟨hno, _⟩, hb⟩
    · obtain rfl : v' = v := by rw [HV.out] at hv'; cases hv'; rfl
      clear hv'
      have g1 := g.keep hb
      have hlen : s.data.toList.length = s.size := (size_eq s).symm
      have HL := hide hlen
      clear hlen
      by_cases h0 : 0 ≤ v'
      · by_cases hl : s.size ≤ 16
        · go_wp2_with fail
          refine (itoa_any v' hvb.1 hvb.2 _ g1).mono ?_; rintro e w2 ⟨rfl, hb2⟩
          go_wp2_with fail
          go_ret2
          exact num_close HV.out (by rw [HL.out, toList_data, Bool.eq_iff_iff]; simp [h0, hl]) (below_after hb hb2)
        · go_wp2_with fail
          go_ret2
          exact num_close HV.out (by rw [HL.out]; simp [hl]) hb
      · go_wp2_with fail
        go_ret2
        have hneg : ¬ 0 ≤ v' := by omega
        exact num_close HV.out (by simp [hneg]) hb
    · exact absurd HV.out (hno v)
  · have hbad : ∀ v, atoiAll s.data.toList ≠ .ok v := fun v hv => hok ⟨v, hv⟩
    have HB := hide hbad
    clear hbad hok
    go_enter Tryd.func52, Tryd.ntmps52
    go_wp2_with fail
    refine (atoi_any s _ g hs).mono ?_
    rintro e w1 ⟨⟨v', hv', rfl⟩ | ⟨hno, v', N, rfl⟩, hb⟩
    · exact absurd hv' (HB.out v')
    · clear hno
      go_wp2_with fail
      go_ret2
      exact num_bad HB.out hb

/-- The predicate of words: a blank. -/
theorem blank_pred (w : World) : PredAt Tryd.prog 88 #[] encR (fun r => r == 32) w := fun W r _ => by
  unfold FnGives
  go_enter Tryd.func88, Tryd.ntmps88
  go_wp2
  go_ret
  have h : ((r : Int) == 32) = (r == 32) := by rw [Bool.eq_iff_iff]; simp; omega
  refine ⟨?_, 0, rfl⟩
  show Ending.returned (Value.bool ((r : Int) == 32)) = _
  rw [h]
theorem enters88 : ∀ args w, (callFunc 88 args).run Tryd.prog w = .ok (.enter 88 args) w := enters_of Tryd.func88 (by kernel_rfl) rfl
/-- A list of words of the call's own. -/
def WordsAt (w : World) (B : Nat) (v : Value) (ws : List ByteArray) : Prop := ∃ A, v = .slice (some ⟨A, 0, none⟩) ws.length ws.length ∧ B ≤ A ∧ w.ownsRow B 9 1 v ws.length (ws.map Value.string)
set_option maxHeartbeats 1000000 in
theorem words_any (s : ByteArray) (w : World) (hs : s.size ≤ 4294967296) : Calls Tryd.prog 49 #[.string s] w fun e w' => ∃ v ws, e = .returned v ∧ ws.map (·.data.toList) = wds s.data.toList ∧ WordsAt w' w.heap.size v ws ∧ Below w.heap.size w w' := by
  have H := hide (fields_wds s)
  go_enter Tryd.func49, Tryd.ntmps49
  go_wp2_with fail
  refine (Tryd.strings_FieldsFunc 88 #[] enters88 (fun r => r == 32) s _ hs (blank_pred _)).mono ?_; rintro e w1 ⟨A, rfl, hA, hown, hb⟩
  go_wp2_with fail
  go_ret
  exact ⟨_, _, rfl, H.out, ⟨A, rfl, hA, hown⟩, hb⟩
end Go.Proofs.YtjhkgoppopfoaaaDoor
