/-
  works of sounderlaw22: the chapter's examples.
-/
import Derived.Test.YtjhkgoppopfoaaaDoorEvh
import Derived.Test.YtjhkgoppopfoaaaDoorEvo
import Derived.Test.YtjhkgoppopfoaaaDoorEve
import Derived.Test.YtjhkgoppopfoaaaDoorConfp
import Derived.BigQuiet
namespace Go.Proofs.YtjhkgoppopfoaaaDoor
open Go.RowKit Go.Lib Go.Maps
set_option linter.unusedVariables false
set_option linter.unusedSimpArgs false

theorem evs_block {w : World} {b : Nat} {es : List Ev} (h : w.heap[b]? = some (.cells (flatE es).toArray 52 (0, 0))) (hwf : ∀ e ∈ es, e.wf) (hl : es.length ≤ maxLen) : IsEvs w (some ⟨b, 0, none⟩) es.length 4 (zOf es) := by
  have hown : w.ownsRow 0 52 4 (.slice (some ⟨b, 0, none⟩) es.length es.length) es.length (flatE es) :=
    ⟨flatE_len es, .inr ⟨b, es.length, _, rfl, Nat.zero_le _, h, Nat.le_refl _, hl, by simp [flatE_len], by simp [← flatE_len]⟩⟩
  obtain ⟨_, a, cap, he, hE⟩ := evs_of_own hown hwf
  injection he with h1 h2 h3
  rw [h1]
  exact hE
theorem etext_yes (a : Option Addr) (len cap : Nat) (z : Nat → Nat → Int) (es : List Ev) (w : World) (g : Gd w) (h : IsEvs w a len 4 z) (hl : len ≤ 4000) (hz : evs z len = es) (hok : ∀ e ∈ es, e.ok) :
    Calls Tryd.prog 28 #[.slice a len cap] w fun e w' => e = .returned (.tuple #[.string ⟨(textE es).toArray⟩, .int .i64 0]) ∧ Below w.heap.size w w' := by
  refine (etext_any a len cap z w g h hl).mono ?_
  rintro e w' ⟨⟨s, er, rfl, hr⟩, hb⟩
  refine ⟨?_, hb⟩
  rcases hr with ⟨_, rfl, rfl⟩ | ⟨hno, _⟩
  · rw [linesT_evs, hz]
  · exact absurd (okN_evs.2 (by rw [hz]; exact hok)) hno
theorem eparse_ok (s : ByteArray) (es : List Ev) (w : World) (g : Gd w) (hs : s.size ≤ 1048576) (hc : s.data.toList.count 10 < 4000) (hp : parseE s.data.toList = .ok es) :
    Calls Tryd.prog 23 #[.string s] w fun x w' => ∃ a cap, x = .returned (.tuple #[.slice a es.length cap, .int .i64 0, .int .i64 0]) ∧ IsEvs w' a es.length 4 (zOf es) ∧ Below w.heap.size w w' := by
  refine (eparse_any s w g hs hc).mono ?_
  rintro x w' ⟨⟨a, cap, es', rfl, he, hE⟩ | ⟨k, rfl, he⟩, hb⟩
  · rw [hp] at he
    cases he
    exact ⟨a, cap, rfl, hE, hb⟩
  · rw [hp] at he; cases he
theorem eparse_err (s : ByteArray) (k : Nat) (w : World) (g : Gd w) (hs : s.size ≤ 1048576) (hc : s.data.toList.count 10 < 4000) (hp : parseE s.data.toList = .error k) :
    Calls Tryd.prog 23 #[.string s] w fun x w' => x = .returned (.tuple #[.slice none 0 0, .int .i64 (k : Int), .int .i64 4]) ∧ Below w.heap.size w w' := by
  refine (eparse_any s w g hs hc).mono ?_
  rintro x w' ⟨⟨a, cap, es', rfl, he, hE⟩ | ⟨k', rfl, he⟩, hb⟩
  · rw [hp] at he; cases he
  · rw [hp] at he
    cases he
    exact ⟨rfl, hb⟩
def ex5 : List Ev := [⟨1, 2, 7, 1200⟩, ⟨3, 0, 0, 2⟩, ⟨4, 0, 0, 2400⟩, ⟨5, 2, 0, 0⟩, ⟨6, 0, 0, 210⟩]
def tx5 : Bs := [97, 99, 107, 101, 100, 32, 50, 32, 55, 32, 49, 50, 48, 48, 10, 112, 114, 111, 98, 101, 32, 48, 32, 50, 10, 119, 105, 110, 100, 111, 119, 32, 50, 52, 48, 48, 10, 99, 111, 108, 108, 97, 112, 115, 101, 32, 50, 10, 99, 108, 111, 115, 101, 100, 32, 50, 49, 48, 10]
theorem itoa_one (n : Nat) (h : n < 10) : itoa (n : Int) = [UInt8.ofNat (48 + n)] := by rw [itoa_nat, decDigits_one h]
theorem itoa_2400 : itoa 2400 = [50, 52, 48, 48] := by rw [show (2400 : Int) = ((2400 : Nat) : Int) from rfl, itoa_nat]; exact dig_2400
theorem itoa_210 : itoa 210 = [50, 49, 48] := by
  rw [show (210 : Int) = ((210 : Nat) : Int) from rfl, itoa_nat, dd 210 (by decide), dd (210 / 10) (by decide), decDigits_one (by decide)]
  rfl
theorem ex5_text : textE ex5 = tx5 := by
  have h0 : itoa 0 = [48] := itoa_one 0 (by decide)
  have h2 : itoa 2 = [50] := itoa_one 2 (by decide)
  have h7 : itoa 7 = [55] := itoa_one 7 (by decide)
  simp [textE, ex5, tx5, lineE, preL, fds, word, Ev.at, h0, h2, h7, itoa_1200, itoa_2400, itoa_210]
theorem ex5_ok : ∀ e ∈ ex5, e.ok := by
  intro e he
  simp only [ex5, List.mem_cons, List.not_mem_nil, or_false] at he
  obtain rfl | rfl | rfl | rfl | rfl := he
  all_goals
    simp [Ev.ok, fds, Ev.at]
    try omega
theorem ex5_parse : parseE tx5 = .ok ex5 := by rw [← ex5_text]; exact parse_text_ok _ ex5_ok
def l107 : Bs := [108, 111, 115, 116, 32, 49, 32, 48, 55, 32, 57, 10]
theorem l107_parse : parseE l107 = .error 1 := by
  have hr : readW (spl 32 [108, 111, 115, 116, 32, 49, 32, 48, 55, 32, 57]) = none :=
    none_bad (ws := [[108, 111, 115, 116], [49], [48, 55], [57]]) (f := ⟨2, 0, 9007199254740991⟩) (w := [48, 55]) 2 1 rfl (by decide) rfl rfl rfl fun n hw hd h1 h2 => by
      rw [show decFrom 0 [48, 55] = some 7 from rfl] at hd
      obtain rfl := Option.some.inj hd
      rw [decDigits_one (by decide)] at hw
      simp at hw
  exact parse_spoilt [] (by simp) [108, 111, 115, 116, 32, 49, 32, 48, 55, 32, 57] (by decide) hr []
def col0 : Bs := [99, 111, 108, 108, 97, 112, 115, 101, 32, 48]
theorem col0_parse : parseE col0 = .error 1 := by
  unfold parseE
  rw [readsE_none col0 (by decide)]
  rfl
theorem nil_parse : parseE [] = .ok [] := by
  unfold parseE
  rw [readsE_none [] (by decide)]
  rfl
def odd4 : List Ev := [⟨1, 3, 0, 1⟩, ⟨5, 0, 0, 1⟩, ⟨0, 0, 0, 0⟩, ⟨4, 0, 0, 2399⟩]
theorem odd4_no (i : Nat) (h : i < 4) (e : Ev) (he : odd4[i]? = some e) : ¬ e.ok ∧ e.wf := by
  obtain rfl | rfl | rfl | rfl : i = 0 ∨ i = 1 ∨ i = 2 ∨ i = 3 := by omega
  all_goals
    simp only [odd4, List.getElem?_cons_zero, List.getElem?_cons_succ, Option.some.injEq] at he
    subst he
    refine ⟨by simp [Ev.ok, fds, Ev.at], ?_⟩
    intro c
    unfold Ev.at
    split <;> simp only <;> omega
def W4Rel (w : World) (q : Nat) (i : Value) (wr : World) : Prop := ∃ k : Nat, i = .int .i64 (k : Int) ∧ k ≤ 4 ∧ IsEvs wr (some ⟨q, 0, none⟩) 4 4 (zOf odd4) ∧ Below w.heap.size w wr
set_option maxRecDepth 100000 in
set_option maxHeartbeats 8000000 in
theorem works22_any (w : World) (g : Gd w) : Calls Tryd.prog 26 #[] w fun e w' => e = .returned (.bool true) ∧ Below w.heap.size w w' := by
  have hb1 := below_alloc1 w (.cells (flatE ex5).toArray 52)
  have hE : IsEvs (w.alloc (.cells (flatE ex5).toArray 52)) (some ⟨w.heap.size, 0, none⟩) 5 4 (zOf ex5) := evs_block (es := ex5) (heap_at _ rfl) (fun e he => ok_wf (ex5_ok e he)) (by decide)
  have g1 := g.keep hb1
  simp only [flatE, ex5, List.flatMap_cons, List.flatMap_nil, Ev.cells, List.append_nil, List.cons_append, List.nil_append] at hb1 hE g1
  go_enter Tryd.func26, Tryd.ntmps26
  go_wp2_with fail
  refine (etext_yes _ 5 _ (zOf ex5) ex5 _ g1 hE (by decide) (evs_zOf ex5) ex5_ok).mono ?_; rintro x w2 ⟨rfl, hb2⟩
  have hB := below_after hb1 hb2
  have g2 := g1.keep hb2
  have hE2 := hE.keep hb2
  rw [ex5_text]
  clear hE g1 hb1 hb2
  obtain ⟨q, hq⟩ : ∃ q, q = w.heap.size := ⟨_, rfl⟩
  rw [← hq] at hE2
  rw [← hq]
  clear hq
  have HP := hide (fun w g => eparse_ok ⟨tx5.toArray⟩ ex5 w g (by decide) (by decide) ex5_parse)
  simp only [tx5] at HP
  simp only [tx5]
  go_wp2_with fail
  refine (HP.out _ g2).mono ?_; rintro x w3 ⟨a, cap, rfl, hE3, hb3⟩
  have hl : ex5.length = 5 := rfl
  rw [hl] at hE3
  rw [hl]
  clear hl HP
  have hE4 := hE2.keep hb3
  have g3 := g2.keep hb3
  replace hB := below_after hB hb3
  clear g2 hE2 hb3
  go_wp2_with fail
  refine (equal_yes a _ 5 cap 5 (zOf ex5) (zOf ex5) _ hE3 hE4 (fun _ _ => rfl)).mono ?_; rintro x w4 ⟨rfl, hb4⟩
  replace hB := below_after hB hb4
  have g4 := g3.keep hb4
  clear hE3 hE4 g3 hb4
  have hb5 := below_alloc1 w4 (.cells (flatE odd4).toArray 52)
  have hO : IsEvs (w4.alloc (.cells (flatE odd4).toArray 52)) (some ⟨w4.heap.size, 0, none⟩) 4 4 (zOf odd4) := evs_block (es := odd4) (heap_at _ rfl) (fun e he => by
    obtain ⟨i, hi⟩ := List.mem_iff_getElem?.1 he
    exact (odd4_no i (by have := (List.getElem?_eq_some_iff.1 hi).1; exact this) e hi).2) (by decide)
  replace hB := below_after hB hb5
  have HG := hide g4
  simp only [flatE, odd4, List.flatMap_cons, List.flatMap_nil, Ev.cells, List.append_nil, List.cons_append, List.nil_append] at hb5 hO hB
  go_wp2_with fail
  obtain ⟨p, hp⟩ : ∃ p, p = w4.heap.size := ⟨_, rfl⟩
  rw [← hp] at hO
  rw [← hp]
  have HO := hide hO
  clear hO hp g4
  go_loopw [8] (W4Rel w p) (fun i _ => (4 - intOf i).toNat)
  case atStart => exact ⟨0, rfl, by omega, HO.out, hB⟩
  case round =>
    clear hB HO
    obtain ⟨k, rfl, hk, hO, hB⟩ := hrel
    by_cases hlt : k < 4
    · obtain ⟨ab, off, hab, e0, e1, e2, e3, -⟩ := row_cells hO hlt
      simp only [Option.some.injEq, Addr.mk.injEq, and_true] at hab
      obtain ⟨rfl, rfl⟩ := hab
      simp only [Nat.zero_add] at e0 e1 e2 e3
      have hkl : (k : Int) < 4 := by omega
      have hk0 : (0 : Int) ≤ (k : Int) := by omega
      obtain ⟨e, he⟩ : ∃ e, odd4[k]? = some e := ⟨_, List.getElem?_eq_getElem (by exact hlt)⟩
      obtain ⟨hno, hwf⟩ := odd4_no k hlt e he
      have hev := evAt_zOf he
      have HC : Hid (∀ w, Calls Tryd.prog 30 #[.agg #[.int .i64 (zOf odd4 k 0), .int .i64 (zOf odd4 k 1), .int .i64 (zOf odd4 k 2), .int .i64 (zOf odd4 k 3)]] w fun x w' => x = .returned (.int .i64 2) ∧ Below w.heap.size w w') := hide (fun w => by
        have := echeck_any e w hwf
        rw [err_no hno, ← hev] at this
        exact this)
      have HO := hide hO
      clear hev hno hwf he hO
      go_wp2_with fail
      refine (HC.out _).mono ?_; rintro x w5 ⟨rfl, hb5⟩
      go_wp2_with fail
      go_roundw
      case rel => exact ⟨k + 1, by go_num, by omega, HO.out.keep hb5, below_after hB hb5⟩
      case measure => simp [intOf]; omega
    · obtain rfl : k = 4 := by omega
      have g5 := g.keep hB
      clear hO
      have H1 := hide (fun w g => eparse_err ⟨l107.toArray⟩ 1 w g (by decide) (by decide) l107_parse)
      have H2 := hide (fun w g => eparse_err ⟨col0.toArray⟩ 1 w g (by decide) (by decide) col0_parse)
      have H3 := hide (fun w g => eparse_ok ⟨#[]⟩ [] w g (by decide) (by decide) nil_parse)
      simp only [l107] at H1
      simp only [col0] at H2
      go_wp2_with fail
      refine (H1.out _ g5).mono ?_; rintro x w5 ⟨rfl, hb5⟩
      have g6 := g5.keep hb5
      replace hB := below_after hB hb5
      go_wp2_with fail
      refine (H2.out _ g6).mono ?_; rintro x w6 ⟨rfl, hb6⟩
      have g7 := g6.keep hb6
      replace hB := below_after hB hb6
      go_wp2_with fail
      refine (H3.out _ g7).mono ?_; rintro x w7 ⟨a', cap', rfl, -, hb7⟩
      replace hB := below_after hB hb7
      go_wp2_with fail
      go_ret
      exact ⟨rfl, hB⟩
end Go.Proofs.YtjhkgoppopfoaaaDoor
