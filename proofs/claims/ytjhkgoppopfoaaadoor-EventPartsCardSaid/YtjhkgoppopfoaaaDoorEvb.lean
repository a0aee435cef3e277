/-
  The document's Parse for events.
-/
import Derived.Test.YtjhkgoppopfoaaaDoorEvm
import Derived.Test.YtjhkgoppopfoaaaDoorEvi
import Derived.Test.YtjhkgoppopfoaaaDoorEvh
namespace Go.Proofs.YtjhkgoppopfoaaaDoor
open Go.RowKit Go.Lib Go.Maps
set_option linter.unusedVariables false
set_option linter.unusedSimpArgs false

def RqRel (s : ByteArray) (w : World) (i out fr : Value) (wr : World) : Prop := ∃ (k f : Nat) (es : List Ev), i = .int .i64 (k : Int) ∧ fr = .int .i64 (f : Int) ∧ f ≤ k ∧ k ≤ s.size ∧ s.data.toList.take f = textE es ∧ (∀ e ∈ es, e.ok) ∧ (10 : UInt8) ∉ (s.data.toList.drop f).take (k - f) ∧ wr.ownsRow w.heap.size 52 4 out es.length (flatE es) ∧ Below w.heap.size w wr
theorem rq_split {l : Bs} {f : Nat} {es : List Ev} (h : l.take f = textE es) : l = textE es ++ l.drop f := by rw [← h, List.take_append_drop]
theorem rq_len {l : Bs} {f k : Nat} (hf : f ≤ k) (hk : k ≤ l.length) : ((l.drop f).take (k - f)).length = k - f := by
  rw [List.length_take, List.length_drop]; omega
theorem rq_piece {l : Bs} {f k : Nat} (hf : f ≤ k) (hb : l[k]? = some 10) : (l.drop f).take (k + 1 - f) = (l.drop f).take (k - f) ++ [10] := by
  have h1 : (l.drop f)[k - f]? = some 10 := by rw [List.getElem?_drop, show f + (k - f) = k from by omega]; exact hb
  rw [show k + 1 - f = (k - f) + 1 from by omega, take_snoc_at h1]
theorem rq_head {l : Bs} {f k : Nat} {es : List Ev} (hf : f ≤ k) (htx : l.take f = textE es) (hb : l[k]? = some 10) : l.take (k + 1) = textE es ++ ((l.drop f).take (k - f) ++ [10]) := by
  have hl : k < l.length := by
    rcases Nat.lt_or_ge k l.length with h | h
    · exact h
    · rw [List.getElem?_eq_none h] at hb; cases hb
  have h1 : l = (l.take f ++ ((l.drop f).take (k - f) ++ [10])) ++ l.drop (k + 1) := by
    have := cut_at hf hb
    rw [List.append_assoc, List.append_assoc, List.singleton_append, ← this, List.take_append_drop]
  have h2 : (l.take f ++ ((l.drop f).take (k - f) ++ [10])).length = k + 1 := by
    rw [List.length_append, List.length_append, rq_len hf (by omega), List.length_take]
    simp only [List.length_cons, List.length_nil]
    omega
  rw [← htx]
  have h3 := List.take_left' (l₂ := l.drop (k + 1)) h2
  rw [← h1] at h3
  exact h3
theorem rq_bad {l : Bs} {f k : Nat} {es : List Ev} (hf : f ≤ k) (htx : l.take f = textE es) (hok : ∀ e ∈ es, e.ok) (hb : l[k]? = some 10) (hno : (10 : UInt8) ∉ (l.drop f).take (k - f)) (hr : readW (spl 32 ((l.drop f).take (k - f))) = none) : parseE l = .error (es.length + 1) := by
  have h1 := rq_split htx
  have h2 := cut_at hf hb
  have h3 : readsE (spl 10 l) 0 = readsE (spl 10 (textE es ++ l.drop f)) 0 := by rw [← h1]
  unfold parseE
  rw [h3, parse_app es hok, h2, readsE_cut _ _ hno, hr]
  simp
theorem rq_tail {l : Bs} {f : Nat} {es : List Ev} (htx : l.take f = textE es) (hok : ∀ e ∈ es, e.ok) (hf : f < l.length) (hno : (10 : UInt8) ∉ l.drop f) : parseE l = .error (es.length + 1) := by
  have h1 := rq_split htx
  have h3 : readsE (spl 10 l) 0 = readsE (spl 10 (textE es ++ l.drop f)) 0 := by rw [← h1]
  unfold parseE
  rw [h3, parse_app es hok, readsE_none _ hno, if_neg (by intro h; have := congrArg List.length h; rw [List.length_drop, List.length_nil] at this; omega)]
  simp
set_option maxRecDepth 100000 in
set_option maxHeartbeats 8000000 in
theorem rparse_any (s : ByteArray) (w : World) (hs : s.size ≤ 1048576) (hc : s.data.toList.count 10 < 4000) :
    Calls Tryd.prog 24 #[.string s] w fun x w' => PaE s.data.toList x w' ∧ Below w.heap.size w w' := by
  obtain ⟨i0, hi, hz0, hz1, hz2⟩ := info_parts Tryd.info52
  have hsz : ¬ (1048576 : Int) < (s.size : Int) := by omega
  have hsl : s.data.toList.length = s.size := (size_eq s).symm
  have HL := hide hsl
  clear hsl
  go_enter Tryd.func24, Tryd.ntmps24
  go_wp2_with fail
  go_loopw [7, 5, 6] (RqRel s w) (fun i _ _ _ => (s.size - intOf i).toNat)
  case atStart => exact ⟨0, 0, [], rfl, rfl, Nat.le_refl _, Nat.zero_le _, by simp [textE], by simp, by simp, World.ownsRow_nil _ _ _ _, Below.refl _ _⟩
  case round =>
    obtain ⟨k, f, es, rfl, rfl, hf, hk, htx, hok, hno, hown, hB⟩ := hrel
    have hlen : es.length < 4000 := prat_len (rq_split htx) hok hc
    obtain ⟨hl0, a, cap, rfl, hE⟩ := evs_of_own hown (fun e he => ok_wf (hok e he))
    clear hl0
    have hk0 : (0 : Int) ≤ (k : Int) := by omega
    have hf0 : (0 : Int) ≤ (f : Int) := by omega
    have hfk : (f : Int) ≤ (k : Int) := by omega
    have hl4 : ((es.length : Int) == 4000) = false := beq_eq_false_iff_ne.2 (by omega)
    have hw1 : IntKind.i64.wrap ((es.length : Int) + 1) = (es.length : Int) + 1 := IntWalk.i64_in _ (by omega)
    by_cases hlt : k < s.size
    · have hkl : (k : Int) < (s.size : Int) := by omega
      have hks : (k : Int) ≤ (s.size : Int) := by omega
      have hb := byte_at s k hlt
      obtain ⟨B, hBB⟩ : ∃ B, (s[k]'hlt).toNat = B := ⟨_, rfl⟩
      by_cases h10 : B = 10
      · have hb10 : s[k]'hlt = 10 := UInt8.toNat_inj.1 (by rw [hBB, h10]; rfl)
        have hbt : ((B : Int) != 10) = false := by rw [h10]; rfl
        rw [hb10] at hb
        have hxl : (s.extract f k).data.toList = (s.data.toList.drop f).take (k - f) := extract_data s f k
        have hxs : (s.extract f k).size ≤ 1048576 := by rw [ByteArray.size_extract]; omega
        have hhd := rq_head hf htx hb
        have hpc := rq_piece hf hb
        have hbad := rq_bad hf htx hok hb hno
        obtain ⟨L, hL⟩ : ∃ L, (s.data.toList.drop f).take (k - f) = L := ⟨_, rfl⟩
        rw [hL] at hxl hhd hpc hbad
        have hsame := read_same L
        have hrd := rread_any (s.extract f k) hxs
        rw [hxl] at hrd
        obtain ⟨X, hX⟩ : ∃ X, readR (spl 32 L) = X := ⟨_, rfl⟩
        rw [hX] at hsame hrd
        have HRD := hide hrd
        have HS := hide hsame
        have HT := hide hhd
        have HBD := hide hbad
        have HOK := hide hok
        obtain ⟨Y, hY⟩ : ∃ Y : Bs, s.extract f (k + 1) = ⟨Y.toArray⟩ := ⟨(s.extract f (k + 1)).data.toList, by rw [mk_data]⟩
        have hYL : Y = L ++ [10] := by rw [← hpc, ← extract_data, hY]
        subst hYL
        clear hrd hsame hX hb hb10 htx hno hL hxl hok hE hhd hpc hbad
        go_wp2_with fail
        refine (HRD.out _).mono ?_; rintro x w1 ⟨rfl, hb1⟩
        by_cases hxk : X.ok
        · have HLN := hide (fun w => rline_yes X w hxk)
          have HX := hide hxk
          by_cases hXL : lineE X = L ++ [10]
          · have HX2 : Hid (s.data.toList.take (k + 1) = textE (es ++ [X])) := hide (by rw [HT.out, textE_app, ← hXL]; simp [textE])
            have hB1 := below_after hB hb1
            have hown1 := own_keep hown hb1
            rw [hXL] at HLN
            clear HBD HS HT hxk hXL hown
            obtain ⟨k1, sp, nu, n⟩ := X
            simp only [Ev.val, Ev.cells] at HLN ⊢
            have hev : EvAt (w1.alloc (.cells #[.int .i64 k1, .int .i64 sp, .int .i64 nu, .int .i64 n] 52)) w1.heap.size ⟨k1, sp, nu, n⟩ := heap_at _ rfl
            have hB2 := below_after hB1 (below_alloc1 w1 (.cells #[.int .i64 k1, .int .i64 sp, .int .i64 nu, .int .i64 n] 52))
            have hown2 := own_keep hown1 (below_alloc1 w1 (.cells #[.int .i64 k1, .int .i64 sp, .int .i64 nu, .int .i64 n] 52))
            go_wp2_with fail
            refine (HLN.out _).mono ?_; rintro x w2 ⟨rfl, hb2⟩
            have hev2 := hev.keep hb2
            have hown3 := own_keep hown2 hb2
            have hB3 := below_after hB2 hb2
            obtain ⟨q, hqe⟩ : ∃ q, q = w1.heap.size := ⟨_, rfl⟩
            rw [← hqe] at hev2 ⊢
            clear hev hown1 hown2 hB1 hB2 hqe hb1 hb2
            have c0 := hev2.c0
            have c1 := hev2.c1
            have c2 := hev2.c2
            have c3 := hev2.c3
            simp only at c0 c1 c2 c3
            go_wp2_with (at_builtin; refine wpList_append_own _ rfl _ _ 41 rfl w.heap.size 52 i0 (.agg #[.int .i64 0, .int .i64 0, .int .i64 0, .int .i64 0]) 4 32 Tryd.underlying41 hi hz0 hz1 hz2 rfl (by decide) _ _ _ rfl (hown3.alloc _) ⟨w2.heap.size, 0, none⟩ 1 1 [.int .i64 k1, .int .i64 sp, .int .i64 nu, .int .i64 n] rfl rfl ?c1 ?c2 ?c3 ?c4 ?c5 ?_)
            case c1 => exact World.news_of_block (heap_at (w := w2) (.cells #[.int .i64 k1, .int .i64 sp, .int .i64 nu, .int .i64 n] 52) rfl)
            case c2 => simp [Value.oneCell']
            case c3 => unfold maxLen; omega
            case c4 => omega
            case c5 => have := hB3.size; simp; omega
            intro v' w3 hown' hgrow _
            go_wp2_with fail
            go_roundw
            case rel =>
              refine ⟨k + 1, k + 1, es ++ [⟨k1, sp, nu, n⟩], by go_num, by go_num, by omega, by omega, HX2.out, ?_, by simp, ?_, ?_⟩
              · intro e he
                rcases List.mem_append.1 he with he | he
                · exact HOK.out e he
                · rw [List.mem_singleton.1 he]; exact HX.out
              · rw [List.length_append, flatE_app]
                simpa [flatE, Ev.cells] using hown'
              · exact (hB3.alloc hB3.size _).grown hgrow (by have := hB3.size; simp; omega) (fun k hk => (hown3.lt k hk).1)
            case measure => simp [intOf]; omega
          · have hneq : (lineE X == L ++ [10]) = false := beq_eq_false_iff_ne.2 hXL
            have HP : Hid (parseE s.data.toList = .error (es.length + 1)) := hide (HBD.out (HS.out.2 (fun h => hXL h.2)))
            have hB1 := below_after hB hb1
            obtain ⟨XL, hXLe⟩ : ∃ XL, lineE X = XL := ⟨_, rfl⟩
            rw [hXLe] at HLN hneq
            clear HBD HS HT hxk hXL HX hXLe
            obtain ⟨k1, sp, nu, n⟩ := X
            simp only [Ev.val, Ev.cells] at HLN ⊢
            have hev : EvAt (w1.alloc (.cells #[.int .i64 k1, .int .i64 sp, .int .i64 nu, .int .i64 n] 52)) w1.heap.size ⟨k1, sp, nu, n⟩ := heap_at _ rfl
            have hB2 := below_after hB1 (below_alloc1 w1 (.cells #[.int .i64 k1, .int .i64 sp, .int .i64 nu, .int .i64 n] 52))
            go_wp2_with fail
            refine (HLN.out _).mono ?_; rintro x w2 ⟨rfl, hb2⟩
            go_wp2_with fail
            go_ret3
            exact ⟨Or.inr ⟨es.length + 1, by simp, HP.out⟩, below_after hB2 hb2⟩
        · have HLN := hide (fun w => rline_no X w hxk)
          have HP : Hid (parseE s.data.toList = .error (es.length + 1)) := hide (HBD.out (HS.out.2 (fun h => hxk h.1)))
          have hB1 := below_after hB hb1
          clear HBD HS HT hxk
          obtain ⟨k1, sp, nu, n⟩ := X
          simp only [Ev.val, Ev.cells] at HLN ⊢
          have hB2 := below_after hB1 (below_alloc1 w1 (.cells #[.int .i64 k1, .int .i64 sp, .int .i64 nu, .int .i64 n] 52))
          go_wp2_with fail
          refine (HLN.out _).mono ?_; rintro x w2 ⟨rfl, hb2⟩
          go_wp2_with fail
          go_ret3
          exact ⟨Or.inr ⟨es.length + 1, by simp, HP.out⟩, below_after hB2 hb2⟩
      · have hbt : ((B : Int) != 10) = true := by simp; omega
        have hno2 := no_more (c := 10) hf hb (by intro e; apply h10; rw [← hBB, e]; rfl) hno
        have HT := hide htx
        have HOK := hide hok
        have HN := hide hno2
        clear htx hok hno hno2 hb hE
        go_wp2_with fail
        go_roundw
        case rel => exact ⟨k + 1, f, es, by go_num, rfl, by omega, by omega, HT.out, HOK.out, HN.out, hown, hB⟩
        case measure => simp [intOf]; omega
    · obtain rfl : k = s.size := by omega
      rw [all_rest HL.out.symm] at hno
      by_cases hfs : f < s.size
      · have hfs' : (f : Int) < (s.size : Int) := by omega
        have HP := hide (rq_tail htx hok (by rw [HL.out]; exact hfs) hno)
        clear htx hno hok hE
        go_wp2_with fail
        go_ret3
        exact ⟨Or.inr ⟨es.length + 1, by simp, HP.out⟩, hB⟩
      · obtain rfl : f = s.size := by omega
        have HP : Hid (parseE s.data.toList = .ok es) := hide (by
          rw [← HL.out, List.take_length] at htx
          rw [htx]
          exact parse_text_ok es hok)
        have HE := hide hE
        clear htx hno hok hE
        go_wp2_with fail
        go_ret3
        exact ⟨Or.inl ⟨a, cap, es, rfl, HP.out, HE.out⟩, hB⟩
end Go.Proofs.YtjhkgoppopfoaaaDoor
