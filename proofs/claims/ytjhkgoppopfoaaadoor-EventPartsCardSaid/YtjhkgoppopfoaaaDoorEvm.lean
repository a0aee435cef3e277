/-
  The document's words and read for events.
-/
import Derived.Test.YtjhkgoppopfoaaaDoorEvj
import Derived.OwnWalk
import Derived.Maps.AppendAt
import Derived.BigQuiet
namespace Go.Proofs.YtjhkgoppopfoaaaDoor
open Go.RowKit Go.Lib Go.Maps
set_option linter.unusedVariables false
set_option linter.unusedSimpArgs false

theorem Tryd.info9 : (Tryd.prog.info? 9).map (fun i => (i.zero, i.size, i.bytes)) = some (some (.string ⟨#[]⟩), 1, 16) := by kernel_rfl
theorem own_slice {w : World} {B : Nat} {e : TypeId} {sz n : Nat} {v : Value} {xs : List Value} (h : w.ownsRow B e sz v n xs) : ∃ a cap, v = .slice a n cap := by
  rcases h.2 with ⟨rfl, rfl⟩ | ⟨g, cap, cur, rfl, -⟩
  · exact ⟨none, 0, rfl⟩
  · exact ⟨_, cap, rfl⟩
theorem cut_at {c : UInt8} {l : Bs} {f k : Nat} (hf : f ≤ k) (h : l[k]? = some c) : l.drop f = (l.drop f).take (k - f) ++ c :: l.drop (k + 1) := by
  obtain ⟨hl, he⟩ := List.getElem?_eq_some_iff.1 h
  have h1 : l.drop k = c :: l.drop (k + 1) := by rw [List.drop_eq_getElem_cons hl, he]
  rw [← h1]
  have h2 : l.drop k = (l.drop f).drop (k - f) := by rw [List.drop_drop]; congr 1; omega
  rw [h2, List.take_append_drop]
theorem no_more {c b : UInt8} {l : Bs} {f k : Nat} (hf : f ≤ k) (h : l[k]? = some b) (hb : b ≠ c) (hn : c ∉ (l.drop f).take (k - f)) : c ∉ (l.drop f).take (k + 1 - f) := by
  have h1 : (l.drop f)[k - f]? = some b := by rw [List.getElem?_drop, show f + (k - f) = k from by omega]; exact h
  rw [show k + 1 - f = (k - f) + 1 from by omega, take_snoc_at h1]
  simp only [List.mem_append, List.mem_singleton, not_or]
  exact ⟨hn, fun e => hb e.symm⟩
theorem all_rest {l : Bs} {f k : Nat} (hk : k = l.length) : (l.drop f).take (k - f) = l.drop f := List.take_of_length_le (by rw [List.length_drop]; omega)
def WdRel (s : ByteArray) (w : World) (i out fr : Value) (wr : World) : Prop := ∃ (k f : Nat) (ls : List ByteArray), i = .int .i64 (k : Int) ∧ fr = .int .i64 (f : Int) ∧ wr.ownsRow w.heap.size 9 1 out ls.length (ls.map Value.string) ∧ Below w.heap.size w wr ∧ ls.length ≤ k ∧
  ((k ≤ s.size ∧ f ≤ k ∧ spl 32 s.data.toList = ls.map (·.data.toList) ++ spl 32 (s.data.toList.drop f) ∧ (32 : UInt8) ∉ (s.data.toList.drop f).take (k - f)) ∨ (k = s.size + 1 ∧ spl 32 s.data.toList = ls.map (·.data.toList)))
set_option maxRecDepth 100000 in
set_option maxHeartbeats 4000000 in
theorem rwords_any (s : ByteArray) (hs : s.size ≤ 1048576) (w : World) : Calls Tryd.prog 91 #[.string s] w fun e w' => ∃ (v : Value) (ls : List ByteArray), e = .returned v ∧ ls.map (·.data.toList) = spl 32 s.data.toList ∧ w'.ownsRow w.heap.size 9 1 v ls.length (ls.map Value.string) ∧ Below w.heap.size w w' := by
  obtain ⟨i0, hi, hz0, hz1, hz2⟩ := info_parts Tryd.info9
  have hsl : s.data.toList.length = s.size := (size_eq s).symm
  have HL := hide hsl
  clear hsl
  go_enter Tryd.func91, Tryd.ntmps91
  go_wp2_with fail
  go_loopw [5, 3, 4] (WdRel s w) (fun i _ _ _ => (s.size + 1 - intOf i).toNat)
  case atStart => exact ⟨0, 0, [], rfl, rfl, World.ownsRow_nil _ _ _ _, Below.refl _ _, Nat.le_refl _, Or.inl ⟨Nat.zero_le _, Nat.le_refl _, by simp, by simp⟩⟩
  case round =>
    obtain ⟨k, f, ls, rfl, rfl, hown, hB, hlk, hst⟩ := hrel
    have hk0 : (0 : Int) ≤ (k : Int) := by omega
    have hf0 : (0 : Int) ≤ (f : Int) := by omega
    by_cases hle : k ≤ s.size
    · obtain ⟨-, hf, hspl, hno⟩ := hst.resolve_right (by omega)
      clear hst
      have hfk : (f : Int) ≤ (k : Int) := by omega
      have hks : (k : Int) ≤ (s.size : Int) := by omega
      by_cases hlt : k < s.size
      · have hkl : (k : Int) < (s.size : Int) := by omega
        have hne : ((k : Int) == (s.size : Int)) = false := beq_eq_false_iff_ne.2 (by omega)
        have hb := byte_at s k hlt
        obtain ⟨B, hBB⟩ : ∃ B, (s[k]'hlt).toNat = B := ⟨_, rfl⟩
        by_cases h32 : B = 32
        · subst h32
          have hb32 : s[k]'hlt = 32 := UInt8.toNat_inj.1 hBB
          have hcut := cut_at (c := 32) hf (by rw [hb, hb32])
          have HN : Hid (spl 32 s.data.toList = (ls ++ [s.extract f k]).map (·.data.toList) ++ spl 32 (s.data.toList.drop (k + 1))) := hide (by
            rw [hspl, hcut, spl_app 32 _ _ hno, List.map_append, List.append_assoc]
            simp [extract_data])
          clear hcut hb32 hb hspl hno
          go_wp2_with (at_builtin; refine wpList_append_own _ rfl _ _ 35 rfl w.heap.size 9 i0 (.string ⟨#[]⟩) 1 16 Tryd.underlying35 hi hz0 hz1 hz2 rfl (by decide) _ _ _ rfl (hown.alloc _) ⟨wr.heap.size, 0, none⟩ 1 1 [.string (s.extract f k)] rfl rfl ?c1 ?c2 ?c3 ?c4 ?c5 ?_)
          case c1 => exact cell_one_new _ _ _
          case c2 => simp [Value.oneCell']
          case c3 => unfold maxLen; omega
          case c4 => omega
          case c5 => have := hB.size; simp; omega
          intro v' w1 hown' hgrow _
          go_wp2_with fail
          go_roundw
          case rel =>
            refine ⟨k + 1, k + 1, ls ++ [s.extract f k], by go_num, by go_num, by simpa using hown', ?_, by simp only [List.length_append, List.length_cons, List.length_nil]; omega, Or.inl ⟨by omega, by omega, HN.out, by simp⟩⟩
            exact (hB.alloc hB.size _).grown hgrow (by have := hB.size; simp; omega) (fun k hk => (hown.lt k hk).1)
          case measure => simp [intOf]; omega
        · have hno2 := no_more (c := 32) hf hb (by intro e; apply h32; rw [← hBB, e]; rfl) hno
          have HS := hide hspl
          have hb32 : ((B : Int) == 32) = false := beq_eq_false_iff_ne.2 (by omega)
          clear hspl hno hb
          go_wp2_with fail
          go_roundw
          case rel => exact ⟨k + 1, f, ls, by go_num, rfl, hown, hB, by omega, Or.inl ⟨by omega, by omega, HS.out, hno2⟩⟩
          case measure => simp [intOf]; omega
      · obtain rfl : k = s.size := by omega
        have HN : Hid (spl 32 s.data.toList = (ls ++ [s.extract f s.size]).map (·.data.toList)) := hide (by
          rw [all_rest HL.out.symm] at hno
          rw [hspl, spl_no 32 _ hno, List.map_append]
          simp [extract_data, all_rest HL.out.symm])
        clear hspl hno
        go_wp2_with (at_builtin; refine wpList_append_own _ rfl _ _ 35 rfl w.heap.size 9 i0 (.string ⟨#[]⟩) 1 16 Tryd.underlying35 hi hz0 hz1 hz2 rfl (by decide) _ _ _ rfl (hown.alloc _) ⟨wr.heap.size, 0, none⟩ 1 1 [.string (s.extract f s.size)] rfl rfl ?c1 ?c2 ?c3 ?c4 ?c5 ?_)
        case c1 => exact cell_one_new _ _ _
        case c2 => simp [Value.oneCell']
        case c3 => unfold maxLen; omega
        case c4 => omega
        case c5 => have := hB.size; simp; omega
        intro v' w1 hown' hgrow _
        go_wp2_with fail
        go_roundw
        case rel =>
          refine ⟨s.size + 1, s.size + 1, ls ++ [s.extract f s.size], by go_num, by go_num, by simpa using hown', ?_, by simp only [List.length_append, List.length_cons, List.length_nil]; omega, Or.inr ⟨rfl, HN.out⟩⟩
          exact (hB.alloc hB.size _).grown hgrow (by have := hB.size; simp; omega) (fun k hk => (hown.lt k hk).1)
        case measure => simp [intOf]
    · have hend := (hst.resolve_left (by omega)).2
      have HE := hide hend
      have hkk : ¬ ((k : Int) ≤ (s.size : Int)) := by omega
      clear hend hst
      go_wp2_with fail
      go_ret
      exact ⟨_, rfl, ls, HE.out.symm, hown, hB⟩
theorem spl_short (c : UInt8) : ∀ (l : Bs), ∀ a ∈ spl c l, a.length ≤ l.length
  | [], a, h => by simp [spl] at h; subst h; simp
  | x :: r, a, h => by
    by_cases e : x = c
    · subst e
      rw [spl_eq] at h
      rcases List.mem_cons.1 h with rfl | h
      · simp
      · have := spl_short _ r a h
        simp only [List.length_cons]; omega
    · obtain ⟨b, t, e1, e2⟩ := spl_cons c x e r
      have ih := spl_short c r
      rw [e1] at ih
      rw [e2] at h
      rcases List.mem_cons.1 h with rfl | h
      · have := ih b (by simp)
        simp only [List.length_cons]; omega
      · have := ih a (by simp [h])
        simp only [List.length_cons]; omega
/-- The words, filled up with empty ones. -/
structure Padded (s : ByteArray) (w wr : World) (p : Nat) (v : Value) (ls : List ByteArray) : Prop where
  own : wr.ownsRow (p + 1) 9 1 v ls.length (ls.map Value.string)
  pos : 0 < ls.length
  len : ls.length ≤ 1048580
  get : ∀ i : Nat, ((ls.map (·.data.toList))[i]?).getD [] = ((spl 32 s.data.toList)[i]?).getD []
  bel : Below w.heap.size w wr
  ev : EvAt wr p Ev.zero
theorem own_mono {w : World} {B C : Nat} {e : TypeId} {size n : Nat} {v : Value} {xs : List Value} (h : w.ownsRow B e size v n xs) (hb : C ≤ B) : w.ownsRow C e size v n xs := by
  refine ⟨h.1, h.2.imp id ?_⟩
  rintro ⟨g, cap, cur, h1, h2, h3⟩
  exact ⟨g, cap, cur, h1, Nat.le_trans hb h2, h3⟩
theorem Padded.push {s : ByteArray} {w wr w3 : World} {p : Nat} {v v' : Value} {ls : List ByteArray} {o : Obj} (h : Padded s w wr p v ls) (hp : w.heap.size ≤ p) (hl : ls.length < 4) (hown : w3.ownsRow (p + 1) 9 1 v' (ls.length + 1) (ls.map Value.string ++ [.string ⟨#[]⟩])) (hg : (wr.alloc o).grownBy w3 v.ownBlock) : Padded s w w3 p v' (ls ++ [⟨#[]⟩]) := by
  have hown0 := h.own
  have a2 := keep_heap (below_alloc1 wr o) h.ev
  refine ⟨by simpa using hown, by simp, by simp; omega, fun i => ?_, ?_, ?_⟩
  · rw [← h.get i, List.map_append]
    by_cases hi : i < ls.length
    · rw [List.getElem?_append_left (by simpa using hi)]
    · rw [List.getElem?_append_right (by simp; omega), List.getElem?_eq_none (l := ls.map _) (by simp; omega)]
      cases hx : i - (ls.map fun x => x.data.toList).length with
      | zero => rfl
      | succ j => rfl
  · have hb := h.bel
    exact (below_after hb (below_alloc1 wr o)).grown hg (by have := hb.size; simp; omega) (fun k hk => by have := (hown0.lt k hk).1; omega)
  · refine (hg.block p (lt_of_heap a2) ?_).trans a2
    intro he
    have := (hown0.lt p he.symm).1
    omega
def RpRel (s : ByteArray) (w : World) (p : Nat) (v : Value) (wr : World) : Prop := ∃ ls, Padded s w wr p v ls
def sliceN : Value → Nat
  | .slice _ n _ => n
  | _ => 0
def readF (f : Nat → Bs) : Ev :=
  if f 0 = word 1 then ⟨1, numR (f 1), numR (f 2), numR (f 3)⟩
  else if f 0 = word 2 then ⟨2, numR (f 1), numR (f 2), numR (f 3)⟩
  else if f 0 = word 3 then ⟨3, numR (f 1), 0, numR (f 2)⟩
  else if f 0 = word 4 then ⟨4, 0, 0, numR (f 1)⟩
  else if f 0 = word 5 then ⟨5, numR (f 1), 0, 0⟩
  else ⟨6, 0, 0, numR (f 1)⟩
theorem readR_F {ws : List Bs} (h : ws ≠ []) : readR ws = readF (fun i => (ws[i]?).getD []) := by
  cases ws with
  | nil => exact absurd rfl h
  | cons a t => simp [readR, readF, wn]
theorem rnumber_q (s : ByteArray) (hs : s.size ≤ 1048576) (w : World) : Calls Tryd.prog 92 #[.string s] w fun e w' => e = .returned (.int .i64 (numR s.data.toList)) ∧ w' = w := (rnumber_any s hs w).mono fun _ _ ⟨a, b⟩ => ⟨a, b.symm⟩
set_option maxRecDepth 100000 in
set_option maxHeartbeats 8000000 in
theorem rread_any (s : ByteArray) (hs : s.size ≤ 1048576) (w : World) : Calls Tryd.prog 56 #[.string s] w fun e w' => e = .returned (readR (spl 32 s.data.toList)).val ∧ Below w.heap.size w w' := by
  obtain ⟨i0, hi, hz0, hz1, hz2⟩ := info_parts Tryd.info9
  have hb0 := below_alloc1 w (.cells Ev.zero.cells 52)
  have hq : EvAt (w.alloc (.cells Ev.zero.cells 52)) w.heap.size Ev.zero := heap_at _ rfl
  simp only [Ev.cells, Ev.zero] at hb0 hq
  go_enter Tryd.func56, Tryd.ntmps56
  go_wp2_with fail
  refine (rwords_any s hs _).mono ?_; rintro x w1 ⟨v, ls, rfl, hls, hown, hb1⟩
  have hP : Padded s w w1 w.heap.size v ls := by
    have hl : ls.length = (spl 32 s.data.toList).length := by rw [← hls, List.length_map]
    have hne := spl_ne 32 s.data.toList
    have hlm : (spl 32 s.data.toList).length ≤ 1048577 := by
      rw [spl_len]
      have := List.count_le_length (a := (32 : UInt8)) (l := s.data.toList)
      have e : s.data.toList.length = s.size := (size_eq s).symm
      omega
    refine ⟨by simpa using hown, by rw [hl]; exact List.length_pos_iff.2 hne, by omega, fun i => by rw [hls], below_after hb0 hb1, hq.keep hb1⟩
  obtain ⟨p, hpe⟩ : ∃ p, p = w.heap.size := ⟨_, rfl⟩
  have hpw : w.heap.size ≤ p := Nat.le_of_eq hpe.symm
  rw [← hpe] at hP
  rw [← hpe]
  clear hpe hq hb0 hb1 hown hls
  go_wp2_with fail
  go_loopw [3] (RpRel s w p) (fun v _ => 4 - sliceN v)
  case atStart => exact ⟨ls, hP⟩
  case round =>
    clear hP
    obtain ⟨ls, hP⟩ := hrel
    obtain ⟨a, cap, rfl⟩ := own_slice hP.own
    have hlen := hP.len
    by_cases h4 : ls.length < 4
    · have h4' : (ls.length : Int) < 4 := by omega
      have HP := hide hP
      have hown := hP.own
      have hsz := hP.bel.size
      have hpl := lt_of_heap hP.ev
      clear hP
      go_wp2_with (at_builtin; refine wpList_append_own _ rfl _ _ 35 rfl (p + 1) 9 i0 (.string ⟨#[]⟩) 1 16 Tryd.underlying35 hi hz0 hz1 hz2 rfl (by decide) _ _ _ rfl (hown.alloc _) ⟨wr.heap.size, 0, none⟩ 1 1 [.string ⟨#[]⟩] rfl rfl ?c1 ?c2 ?c3 ?c4 ?c5 ?_)
      case c1 => exact cell_one_new _ _ _
      case c2 => simp [Value.oneCell']
      case c3 => unfold maxLen; omega
      case c4 => omega
      case c5 => simp; omega
      intro v' w3 hown' hgrow _
      obtain ⟨a', cap', rfl⟩ := own_slice hown'
      have HP2 := hide (HP.out.push hpw h4 hown' hgrow)
      clear hown hown' hgrow
      go_wp2_with fail
      go_roundw
      case rel => exact ⟨_, HP2.out⟩
      case measure => simp [sliceN]; omega
    · have h4' : ¬ ((ls.length : Int) < 4) := by omega
      have h1' : (1 : Int) < (ls.length : Int) := by omega
      have h2' : (2 : Int) < (ls.length : Int) := by omega
      have h3' : (3 : Int) < (ls.length : Int) := by omega
      have h0' : (0 : Int) < (ls.length : Int) := by omega
      obtain ⟨x0, e0⟩ : ∃ x, ls[0]? = some x := ⟨_, List.getElem?_eq_getElem (by omega)⟩
      obtain ⟨x1, e1⟩ : ∃ x, ls[1]? = some x := ⟨_, List.getElem?_eq_getElem (by omega)⟩
      obtain ⟨x2, e2⟩ : ∃ x, ls[2]? = some x := ⟨_, List.getElem?_eq_getElem (by omega)⟩
      obtain ⟨x3, e3⟩ : ∃ x, ls[3]? = some x := ⟨_, List.getElem?_eq_getElem (by omega)⟩
      obtain ⟨g, hg⟩ : ∃ g, a = some ⟨g, 0, none⟩ := by
        rcases hP.own.2 with ⟨hx, h0⟩ | ⟨g, c, cur, hx, -⟩
        · omega
        · exact ⟨g, by injection hx⟩
      subst hg
      have cellAt : ∀ (i : Nat) (x : ByteArray), ls[i]? = some x → wr.cell? ⟨g, i, none⟩ = some (.string x) := by
        intro i x hx
        have := hP.own.cells (g := g) rfl i (.string x) (by rw [List.getElem?_map, hx]; rfl)
        rw [Addr.add_lit] at this
        simpa using this
      have c0 := cellAt 0 x0 e0
      have c1 := cellAt 1 x1 e1
      have c2 := cellAt 2 x2 e2
      have c3 := cellAt 3 x3 e3
      have hF : ∀ (i : Nat) (x : ByteArray), ls[i]? = some x → ((spl 32 s.data.toList)[i]?).getD [] = x.data.toList := by
        intro i x hx
        rw [← hP.get i, List.getElem?_map, hx]; rfl
      have hS : ∀ (i : Nat) (x : ByteArray), ls[i]? = some x → x.size ≤ 1048576 := by
        intro i x hx
        have h1 := hF i x hx
        have e : x.data.toList.length = x.size := (size_eq x).symm
        have e2 : s.data.toList.length = s.size := (size_eq s).symm
        cases hm : (spl 32 s.data.toList)[i]? with
        | none =>
          rw [hm] at h1
          have : x.data.toList = [] := h1.symm
          rw [this] at e
          simp at e; omega
        | some y =>
          rw [hm] at h1
          have := spl_short 32 s.data.toList y (List.mem_of_getElem? hm)
          have h2 : y = x.data.toList := h1
          rw [← h2] at e
          omega
      have HR : Hid (readR (spl 32 s.data.toList) = if x0.data.toList = word 1 then ⟨1, numR x1.data.toList, numR x2.data.toList, numR x3.data.toList⟩
          else if x0.data.toList = word 2 then ⟨2, numR x1.data.toList, numR x2.data.toList, numR x3.data.toList⟩
          else if x0.data.toList = word 3 then ⟨3, numR x1.data.toList, 0, numR x2.data.toList⟩
          else if x0.data.toList = word 4 then ⟨4, 0, 0, numR x1.data.toList⟩
          else if x0.data.toList = word 5 then ⟨5, numR x1.data.toList, 0, 0⟩
          else ⟨6, 0, 0, numR x1.data.toList⟩) := hide (by
        rw [readR_F (spl_ne _ _)]
        simp only [readF, hF 0 x0 e0, hF 1 x1 e1, hF 2 x2 e2, hF 3 x3 e3])
      have N1 := hide (rnumber_q x1 (hS 1 x1 e1))
      have N2 := hide (rnumber_q x2 (hS 2 x2 e2))
      have N3 := hide (rnumber_q x3 (hS 3 x3 e3))
      have HE := hide hP.ev
      have HB := hide hP.bel
      clear hF hS cellAt e0 e1 e2 e3 hP hi hz0 hz1 hz2
      obtain ⟨l0, rfl⟩ : ∃ l0 : Bs, x0 = ⟨l0.toArray⟩ := ⟨x0.data.toList, by cases x0; rfl⟩
      obtain ⟨n1, h1⟩ : ∃ n, numR x1.data.toList = n := ⟨_, rfl⟩
      obtain ⟨n2, h2⟩ : ∃ n, numR x2.data.toList = n := ⟨_, rfl⟩
      obtain ⟨n3, h3⟩ : ∃ n, numR x3.data.toList = n := ⟨_, rfl⟩
      rw [h1, h2, h3] at HR
      rw [h1] at N1
      rw [h2] at N2
      rw [h3] at N3
      clear h1 h2 h3
      go_upto_region 4 with (fail)
      go_quiet (first | (go_at_call_of 92 x1; exact Calls.quiet_of_same (N1.out _)) | (go_at_call_of 92 x2; exact Calls.quiet_of_same (N2.out _)) | (go_at_call_of 92 x3; exact Calls.quiet_of_same (N3.out _)))
      have bN : Below wr.heap.size wr (wr.drewN nq) := below_drawn ⟨nq, rfl⟩
      have hev := HE.out.keep bN
      have c0 := keep_cell bN c0
      have HBN := hide (below_after HB.out bN)
      obtain ⟨W, hW⟩ : ∃ W, W = wr.drewN nq := ⟨_, rfl⟩
      rw [← hW] at hev c0 HBN
      rw [← hW]
      clear hW bN c1 c2 c3 N1 N2 N3
      have v0 := hev.c0
      have v1 := hev.c1
      have v2 := hev.c2
      have v3 := hev.c3
      have f0 := efree hev 0
      have f1 := efree hev 1
      have f2 := efree hev 2
      have f3 := efree hev 3
      have done : ∀ e : Ev, EvAt ((((W.setCell ⟨p, 0, none⟩ (.int .i64 e.k)).setCell ⟨p, 1, none⟩ (.int .i64 e.sp)).setCell ⟨p, 2, none⟩ (.int .i64 e.nu)).setCell ⟨p, 3, none⟩ (.int .i64 e.n)) p e ∧ Below w.heap.size w ((((W.setCell ⟨p, 0, none⟩ (.int .i64 e.k)).setCell ⟨p, 1, none⟩ (.int .i64 e.sp)).setCell ⟨p, 2, none⟩ (.int .i64 e.nu)).setCell ⟨p, 3, none⟩ (.int .i64 e.n)) := by
        intro e
        refine ⟨?_, (((HBN.out.setCell (p := ⟨p, 0, none⟩) hpw _).setCell (p := ⟨p, 1, none⟩) hpw _).setCell (p := ⟨p, 2, none⟩) hpw _).setCell (p := ⟨p, 3, none⟩) hpw _⟩
        exact fblk 3 (fblk 2 (fblk 1 (fblk 0 hev (.int .i64 e.k)) (.int .i64 e.sp)) (.int .i64 e.nu)) (.int .i64 e.n)
      have HD := hide done
      clear done hev
      by_cases w1 : l0 = [97, 99, 107, 101, 100]
      · subst w1
        have HV : Hid (readR (spl 32 s.data.toList) = ⟨1, n1, n2, n3⟩) := hide (HR.out.trans (by first | rfl | simp [word]))
        clear HR
        go_wp2_with fail
        obtain ⟨hv, hb⟩ := HD.out ⟨1, n1, n2, n3⟩
        have d0 := hv.c0
        have d1 := hv.c1
        have d2 := hv.c2
        have d3 := hv.c3
        simp only at d0 d1 d2 d3 hb
        exact bodyPost_ret (v := Ev.val ⟨1, n1, n2, n3⟩) (by simp [results, Tryd.results56, go_sem, d0, d1, d2, d3, Ev.val, Ev.cells]) rfl ⟨by rw [HV.out], hb⟩
      have b1 : (l0 == [97, 99, 107, 101, 100]) = false := beq_eq_false_iff_ne.2 w1
      by_cases w2 : l0 = [108, 111, 115, 116]
      · subst w2
        have HV : Hid (readR (spl 32 s.data.toList) = ⟨2, n1, n2, n3⟩) := hide (HR.out.trans (by first | rfl | simp [word]))
        clear HR
        go_wp2_with fail
        obtain ⟨hv, hb⟩ := HD.out ⟨2, n1, n2, n3⟩
        have d0 := hv.c0
        have d1 := hv.c1
        have d2 := hv.c2
        have d3 := hv.c3
        simp only at d0 d1 d2 d3 hb
        exact bodyPost_ret (v := Ev.val ⟨2, n1, n2, n3⟩) (by simp [results, Tryd.results56, go_sem, d0, d1, d2, d3, Ev.val, Ev.cells]) rfl ⟨by rw [HV.out], hb⟩
      have b2 : (l0 == [108, 111, 115, 116]) = false := beq_eq_false_iff_ne.2 w2
      by_cases w3 : l0 = [112, 114, 111, 98, 101]
      · subst w3
        have HV : Hid (readR (spl 32 s.data.toList) = ⟨3, n1, 0, n2⟩) := hide (HR.out.trans (by first | rfl | simp [word]))
        clear HR
        go_wp2_with fail
        obtain ⟨hv, hb⟩ := HD.out ⟨3, n1, 0, n2⟩
        have d0 := hv.c0
        have d1 := hv.c1
        have d2 := hv.c2
        have d3 := hv.c3
        simp only at d0 d1 d2 d3 hb
        exact bodyPost_ret (v := Ev.val ⟨3, n1, 0, n2⟩) (by simp [results, Tryd.results56, go_sem, d0, d1, d2, d3, Ev.val, Ev.cells]) rfl ⟨by rw [HV.out], hb⟩
      have b3 : (l0 == [112, 114, 111, 98, 101]) = false := beq_eq_false_iff_ne.2 w3
      by_cases w4 : l0 = [119, 105, 110, 100, 111, 119]
      · subst w4
        have HV : Hid (readR (spl 32 s.data.toList) = ⟨4, 0, 0, n1⟩) := hide (HR.out.trans (by first | rfl | simp [word]))
        clear HR
        go_wp2_with fail
        obtain ⟨hv, hb⟩ := HD.out ⟨4, 0, 0, n1⟩
        have d0 := hv.c0
        have d1 := hv.c1
        have d2 := hv.c2
        have d3 := hv.c3
        simp only at d0 d1 d2 d3 hb
        exact bodyPost_ret (v := Ev.val ⟨4, 0, 0, n1⟩) (by simp [results, Tryd.results56, go_sem, d0, d1, d2, d3, Ev.val, Ev.cells]) rfl ⟨by rw [HV.out], hb⟩
      have b4 : (l0 == [119, 105, 110, 100, 111, 119]) = false := beq_eq_false_iff_ne.2 w4
      by_cases w5 : l0 = [99, 111, 108, 108, 97, 112, 115, 101]
      · subst w5
        have HV : Hid (readR (spl 32 s.data.toList) = ⟨5, n1, 0, 0⟩) := hide (HR.out.trans (by first | rfl | simp [word]))
        clear HR
        go_wp2_with fail
        obtain ⟨hv, hb⟩ := HD.out ⟨5, n1, 0, 0⟩
        have d0 := hv.c0
        have d1 := hv.c1
        have d2 := hv.c2
        have d3 := hv.c3
        simp only at d0 d1 d2 d3 hb
        exact bodyPost_ret (v := Ev.val ⟨5, n1, 0, 0⟩) (by simp [results, Tryd.results56, go_sem, d0, d1, d2, d3, Ev.val, Ev.cells]) rfl ⟨by rw [HV.out], hb⟩
      have b5 : (l0 == [99, 111, 108, 108, 97, 112, 115, 101]) = false := beq_eq_false_iff_ne.2 w5
      have HV : Hid (readR (spl 32 s.data.toList) = ⟨6, 0, 0, n1⟩) := hide (HR.out.trans (by rw [if_neg (show ¬ (⟨l0.toArray⟩ : ByteArray).data.toList = word 1 from w1), if_neg (show ¬ (⟨l0.toArray⟩ : ByteArray).data.toList = word 2 from w2), if_neg (show ¬ (⟨l0.toArray⟩ : ByteArray).data.toList = word 3 from w3), if_neg (show ¬ (⟨l0.toArray⟩ : ByteArray).data.toList = word 4 from w4), if_neg (show ¬ (⟨l0.toArray⟩ : ByteArray).data.toList = word 5 from w5)]))
      clear HR
      go_wp2_with fail
      obtain ⟨hv, hb⟩ := HD.out ⟨6, 0, 0, n1⟩
      have d0 := hv.c0
      have d1 := hv.c1
      have d2 := hv.c2
      have d3 := hv.c3
      simp only at d0 d1 d2 d3 hb
      exact bodyPost_ret (v := Ev.val ⟨6, 0, 0, n1⟩) (by simp [results, Tryd.results56, go_sem, d0, d1, d2, d3, Ev.val, Ev.cells]) rfl ⟨by rw [HV.out], hb⟩
end Go.Proofs.YtjhkgoppopfoaaaDoor
