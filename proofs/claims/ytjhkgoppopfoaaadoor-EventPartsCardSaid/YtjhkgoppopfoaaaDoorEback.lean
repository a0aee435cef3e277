/-
  The walk of EventBack.
-/
import Derived.Test.YtjhkgoppopfoaaaDoorEvu
import Derived.Test.YtjhkgoppopfoaaaDoorEreads
namespace Go.Proofs.YtjhkgoppopfoaaaDoor
open Go.RowKit Go.Lib Go.Maps
set_option linter.unusedVariables false
set_option linter.unusedSimpArgs false

theorem textE_len {es : List Ev} (h : ∀ e ∈ es, e.ok) : (textE es).length ≤ 75 * es.length := by
  induction es with
  | nil => simp [textE]
  | cons e es ih =>
    have h1 := lineE_len (h e (by simp))
    have h2 := ih (fun x hx => h x (by simp [hx]))
    rw [textE_cons, List.length_append, List.length_cons]
    omega
theorem made22_evs (a : Option Addr) (len cap : Nat) (z : Nat → Nat → Int) (w : World) (h : IsEvs w a len 3 z) :
    Calls Tryd.prog 27 #[.slice a len cap] w fun e w' => ∃ a' cap', e = .returned (.slice a' (min len 300) cap') ∧ IsEvs w' a' (min len 300) 4 (zOf (madeE z (min len 300))) ∧ Below w.heap.size w w' := by
  refine (made22_any a len cap z w h).mono ?_
  rintro e w' ⟨v, rfl, hown, hb⟩
  obtain ⟨_, a', cap', rfl, hE⟩ := evs_of_own hown (fun e he => ok_wf (madeE_ok z _ e he))
  exact ⟨a', cap', rfl, hE, hb⟩
theorem zOf_row {es : List Ev} {k : Nat} (hk : k < es.length) : ∃ e, es[k]? = some e ∧ evAt (zOf es) k = e := ⟨_, List.getElem?_eq_getElem hk, evAt_zOf (List.getElem?_eq_getElem hk)⟩
def EbRel (w : World) (a : Option Addr) (m : Nat) (es : List Ev) (i : Value) (wr : World) : Prop := ∃ k : Nat, i = .int .i64 (k : Int) ∧ k ≤ m ∧ IsEvs wr a m 4 (zOf es) ∧ Below w.heap.size w wr
set_option maxRecDepth 100000 in
set_option maxHeartbeats 4000000 in
theorem eventBack_any (a : Option Addr) (len cap : Nat) (z : Nat → Nat → Int) (w : World) (g : Gd w) (h : IsEvs w a len 3 z) : Calls Tryd.prog 6 #[.slice a len cap] w fun e w' => e = .returned (.bool true) ∧ Below w.heap.size w w' := by
  go_enter Tryd.func6, Tryd.ntmps6
  go_wp2_with fail
  refine (works22_any _ g).mono ?_; rintro x w1 ⟨rfl, hb1⟩
  have h1 := h.keep hb1
  have g1 := g.keep hb1
  have hB := hb1
  clear hb1
  go_wp2_with fail
  refine (made22_evs a len cap z _ h1).mono ?_; rintro x w2 ⟨a', cap', rfl, hE, hb2⟩
  have hm := madeE_len z (min len 300)
  have hok := madeE_ok z (min len 300)
  have hm3 : min len 300 ≤ 300 := by omega
  obtain ⟨m, hme⟩ : ∃ m, min len 300 = m := ⟨_, rfl⟩
  rw [hme] at hE hm hok hm3
  rw [hme]
  obtain ⟨es, hes⟩ : ∃ es, madeE z m = es := ⟨_, rfl⟩
  rw [hes] at hE hm hok
  have g2 := g1.keep hb2
  have hB2 := below_after hB hb2
  clear hes hme h1 hb2 hB g1
  have HO := hide hok
  have HM := hide hm
  have hcnt : (textE es).count 10 = m := by rw [textE_count es hok, hm]
  have htl := textE_len hok
  have HC := hide hcnt
  have HP : Hid (parseE (textE es) = .ok es) := hide (parse_text_ok es hok)
  obtain ⟨T, hT⟩ : ∃ T, textE es = T := ⟨_, rfl⟩
  have HT1 : Hid (∀ w, Gd w → IsEvs w a' m 4 (zOf es) → Calls Tryd.prog 28 #[.slice a' m cap'] w fun e w' => e = .returned (.tuple #[.string ⟨T.toArray⟩, .int .i64 0]) ∧ Below w.heap.size w w') := hide (fun w g h => by
    have := etext_yes a' m cap' (zOf es) es w g h (by omega) (by rw [← hm]; exact evs_zOf es) hok
    rw [hT] at this
    exact this)
  rw [hT] at HC HP htl hcnt
  have HT2 : Hid (∀ w, Gd w → Calls Tryd.prog 23 #[.string ⟨T.toArray⟩] w fun x w' => ∃ a cap, x = .returned (.tuple #[.slice a m cap, .int .i64 0, .int .i64 0]) ∧ IsEvs w' a m 4 (zOf es) ∧ Below w.heap.size w w') := hide (fun w g => by
    have := eparse_ok ⟨T.toArray⟩ es w g (by simp only [ByteArray.size, List.size_toArray]; omega) (by show T.count 10 < 4000; omega) HP.out
    rw [hm] at this
    exact this)
  have HT3 : Hid (∀ w, Calls Tryd.prog 29 #[.string ⟨T.toArray⟩, .string ⟨#[10]⟩] w fun e w' => e = .returned (.int .i64 (m : Int)) ∧ w = w') := hide (fun w => ecnt ⟨T.toArray⟩ m w HC.out)
  clear hm hok hcnt htl hT HC HP
  go_wp2_with fail
  refine (HT1.out _ g2 hE).mono ?_; rintro x w3 ⟨rfl, hb3⟩
  have hE3 := hE.keep hb3
  have g3 := g2.keep hb3
  have hB3 := below_after hB2 hb3
  clear hE hb3 hB2 g2
  go_wp2_with fail
  refine (HT2.out _ g3).mono ?_; rintro x w4 ⟨ay, capy, rfl, hEy, hb4⟩
  have hE4 := hE3.keep hb4
  have g4 := g3.keep hb4
  have hB4 := below_after hB3 hb4
  clear hE3 hb4 hB3 g3
  go_wp2_with fail
  refine (equal_yes a' ay m cap' capy (zOf es) (zOf es) _ hE4 hEy (fun _ _ => rfl)).mono ?_; rintro x w5 ⟨rfl, hb5⟩
  have hE5 := hE4.keep hb5
  have hB5 := below_after hB4 hb5
  clear hE4 hEy hb5 hB4 g4
  go_wp2_with fail
  refine (HT3.out _).mono ?_; rintro x w6 ⟨rfl, rfl⟩
  have HE := hide hE5
  clear hE5
  go_wp2_with fail
  go_loopw [9] (EbRel w a' m es) (fun i _ => (m - intOf i).toNat)
  case atStart => exact ⟨0, rfl, Nat.zero_le _, HE.out, hB5⟩
  case round =>
    clear hB5 HE
    obtain ⟨k, rfl, hk, hE, hB⟩ := hrel
    by_cases hlt : k < m
    · obtain ⟨e, he, hev⟩ := zOf_row (es := es) (by rw [HM.out]; exact hlt)
      obtain ⟨ab, off, rfl, e0, e1, e2, e3, -⟩ := row_cells hE hlt
      have hkl : (k : Int) < (m : Int) := by omega
      have hk0 : (0 : Int) ≤ (k : Int) := by omega
      have HC : Hid (∀ w, Calls Tryd.prog 30 #[.agg #[.int .i64 (zOf es k 0), .int .i64 (zOf es k 1), .int .i64 (zOf es k 2), .int .i64 (zOf es k 3)]] w fun x w' => x = .returned (.int .i64 0) ∧ Below w.heap.size w w') := hide (fun w => by
        have hoke := HO.out e (List.mem_of_getElem? he)
        have := echeck_any e w (ok_wf hoke)
        rw [err_yes hoke, ← hev] at this
        exact this)
      have HE := hide hE
      clear he hev hE
      go_wp2_with fail
      refine (HC.out _).mono ?_; rintro x w7 ⟨rfl, hb7⟩
      go_wp2_with fail
      go_roundw
      case rel => exact ⟨k + 1, by go_num, by omega, HE.out.keep hb7, below_after hB hb7⟩
      case measure => simp [intOf]; omega
    · obtain rfl : k = m := by omega
      clear hE
      go_wp2_with fail
      go_ret
      exact ⟨rfl, hB⟩
end Go.Proofs.YtjhkgoppopfoaaaDoor
