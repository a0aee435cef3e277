/-
  made: rows of numbers brought to be events; walked once.
-/
import Derived.Test.YtjhkgoppopfoaaaDoorEvw
import Derived.Test.YtjhkgoppopfoaaaDoorMade
import Derived.Test.YtjhkgoppopfoaaaDoorEvh
import Derived.BigQuiet
namespace Go.Proofs.YtjhkgoppopfoaaaDoor
open Go.RowKit Go.Lib Go.Maps
set_option linter.unusedVariables false
set_option linter.unusedSimpArgs false

/-- The event of a row. -/
def evRow (a b c : Int) : Ev :=
  if brI a 6 = 0 then ⟨1, brI b 3, brI c 9007199254740992, 1 + brI c 65535⟩
  else if brI a 6 = 1 then ⟨2, brI b 3, brI c 9007199254740992, 1 + brI (c.tdiv 7) 65535⟩
  else if brI a 6 = 2 then ⟨3, brI b 3, 0, 1 + brI c 2⟩
  else if brI a 6 = 3 then ⟨4, 0, 0, 2400 + brI c 1099511625377⟩
  else if brI a 6 = 4 then ⟨5, brI b 3, 0, 0⟩
  else ⟨6, 0, 0, 1 + brI c 999⟩
theorem evRow_ok (a b c : Int) : (evRow a b c).ok := by
  have h1 := brI_in b 3 (by decide)
  have h2 := brI_in c 9007199254740992 (by decide)
  have h3 := brI_in c 65535 (by decide)
  have h4 := brI_in (c.tdiv 7) 65535 (by decide)
  have h5 := brI_in c 2 (by decide)
  have h6 := brI_in c 1099511625377 (by decide)
  have h7 := brI_in c 999 (by decide)
  unfold evRow
  repeat' split
  all_goals
    simp [Ev.ok, fds, Ev.at]
    try omega
def madeE (z : Nat → Nat → Int) (n : Nat) : List Ev := (List.range n).map fun i => evRow (z i 0) (z i 1) (z i 2)
theorem madeE_len (z : Nat → Nat → Int) (n : Nat) : (madeE z n).length = n := by simp [madeE]
theorem madeE_succ (z : Nat → Nat → Int) (n : Nat) : madeE z (n + 1) = madeE z n ++ [evRow (z n 0) (z n 1) (z n 2)] := by simp [madeE, List.range_succ]
theorem madeE_ok (z : Nat → Nat → Int) (n : Nat) : ∀ e ∈ madeE z n, e.ok := by
  intro e he
  simp only [madeE, List.mem_map] at he
  obtain ⟨i, _, rfl⟩ := he
  exact evRow_ok _ _ _
theorem row3_cells {w : World} {a : Option Addr} {len : Nat} {z : Nat → Nat → Int} (h : IsEvs w a len 3 z) {i : Nat} (hi : i < len) :
    ∃ b off, a = some ⟨b, off, none⟩ ∧ w.cell? ⟨b, off + i * 3, none⟩ = some (.int .i64 (z i 0)) ∧ w.cell? ⟨b, off + i * 3 + 1, none⟩ = some (.int .i64 (z i 1)) ∧ w.cell? ⟨b, off + i * 3 + 2, none⟩ = some (.int .i64 (z i 2)) ∧ IsI (z i 0) ∧ IsI (z i 1) ∧ IsI (z i 2) := by
  rcases h.2 with h0 | ⟨b, off, ha, hc⟩
  · omega
  · have h0 := hc i hi 0 (by decide)
    have h1 := hc i hi 1 (by decide)
    have h2 := hc i hi 2 (by decide)
    exact ⟨b, off, ha, by simpa using h0.1, h1.1, h2.1, h0.2, h1.2, h2.2⟩
theorem tdiv7 (N : Int) (h : IsI N) : IsI (N.tdiv 7) := by
  unfold IsI at *
  by_cases h0 : 0 ≤ N
  · rw [Int.tdiv_eq_ediv_of_nonneg h0]; omega
  · have : N.tdiv 7 = -((-N).tdiv 7) := by rw [Int.neg_tdiv, Int.neg_neg]
    rw [this, Int.tdiv_eq_ediv_of_nonneg (by omega)]; omega
def MdRel (w : World) (len : Nat) (z : Nat → Nat → Int) (i out : Value) (wr : World) : Prop := ∃ k : Nat, i = .int .i64 (k : Int) ∧ k ≤ len ∧ k ≤ 300 ∧ wr.ownsRow w.heap.size 52 4 out k (flatE (madeE z k)) ∧ Below w.heap.size w wr
theorem made_push {w W w3 : World} {z : Nat → Nat → Int} {k : Nat} {e : Ev} {v v' : Value} {o : Obj} (he : evRow (z k 0) (z k 1) (z k 2) = e) (hown0 : W.ownsRow w.heap.size 52 4 v k (flatE (madeE z k))) (hB : Below w.heap.size w W) (hown : w3.ownsRow w.heap.size 52 4 v' (k + 1) (flatE (madeE z k) ++ e.cells.toList)) (hg : (W.alloc o).grownBy w3 v.ownBlock) :
    w3.ownsRow w.heap.size 52 4 v' (k + 1) (flatE (madeE z (k + 1))) ∧ Below w.heap.size w w3 := by
  refine ⟨?_, (hB.alloc hB.size _).grown hg (by have := hB.size; simp; omega) (fun k hk => (hown0.lt k hk).1)⟩
  rw [madeE_succ, he, flatE_app]
  simpa [flatE] using hown
set_option maxRecDepth 100000 in
set_option maxHeartbeats 8000000 in
theorem made22_any (a : Option Addr) (len cap : Nat) (z : Nat → Nat → Int) (w : World) (h : IsEvs w a len 3 z) :
    Calls Tryd.prog 27 #[.slice a len cap] w fun e w' => ∃ v, e = .returned v ∧ w'.ownsRow w.heap.size 52 4 v (min len 300) (flatE (madeE z (min len 300))) ∧ Below w.heap.size w w' := by
  obtain ⟨i0, hi, hz0, hz1, hz2⟩ := info_parts Tryd.info52
  have hmx : len ≤ 9223372036854775807 := Nat.le_trans h.1 (by decide)
  go_enter Tryd.func27, Tryd.ntmps27
  go_wp2_with fail
  go_loopw [4, 3] (MdRel w len z) (fun i _ _ => (300 - intOf i).toNat)
  case atStart => exact ⟨0, rfl, by omega, by omega, World.ownsRow_nil _ _ _ _, Below.refl _ _⟩
  case round =>
    obtain ⟨k, rfl, hk, hk3, hown, hB⟩ := hrel
    have hk0 : (0 : Int) ≤ (k : Int) := by omega
    by_cases hlt : k < len
    · have hkl : (k : Int) < (len : Int) := by omega
      by_cases h300 : k < 300
      · have h300' : (k : Int) < 300 := by omega
        obtain ⟨ab, off, rfl, e0, e1, e2, i0', i1, i2⟩ := row3_cells (h.keep hB) hlt
        have HE : Hid (∀ e, evRow (z k 0) (z k 1) (z k 2) = e → evRow (z k 0) (z k 1) (z k 2) = e) := hide (fun _ h => h)
        obtain ⟨A, hA⟩ : ∃ A, z k 0 = A := ⟨_, rfl⟩
        obtain ⟨S, hS⟩ : ∃ S, z k 1 = S := ⟨_, rfl⟩
        obtain ⟨N, hN⟩ : ∃ N, z k 2 = N := ⟨_, rfl⟩
        rw [hA] at e0 i0'
        rw [hS] at e1 i1
        rw [hN] at e2 i2
        have HR : Hid (evRow (z k 0) (z k 1) (z k 2) = evRow A S N) := hide (by rw [hA, hS, hN])
        have CS := hide (fun w => br S 3 w i1 (by decide) (by decide))
        have CA := hide (fun w => br A 6 w i0' (by decide) (by decide))
        have CN := hide (fun n w n0 n1 => br N n w i2 n0 n1)
        have hs := brI_in S 3 (by decide)
        have ht := brI_in A 6 (by decide)
        have HT : Hid (IsI N) := hide i2
        clear hA hS hN HE i0' i1
        have hN0 : -9223372036854775808 ≤ N := i2.1
        have hN1 : N ≤ 9223372036854775807 := i2.2
        clear i2
        go_upto_region 5 with (fail)
        go_quiet (first | (go_at_call 15; exact Calls.quiet_of_same (CS.out _)))
        have bN : Below wr.heap.size wr (wr.drewN nq) := below_drawn ⟨nq, rfl⟩
        have hown := own_keep hown bN
        have e0 := keep_cell bN e0
        have hB := below_after hB bN
        obtain ⟨W, hW⟩ : ∃ W, W = wr.drewN nq := ⟨_, rfl⟩
        rw [← hW] at hown e0 hB
        rw [← hW]
        clear hW bN e1 e2
        obtain ⟨s, hse⟩ : ∃ s, brI S 3 = s := ⟨_, rfl⟩
        obtain ⟨t, hte⟩ : ∃ t, brI A 6 = t := ⟨_, rfl⟩
        rw [hse] at hs
        rw [hse]
        rw [hte] at CA ht
        have HRW := hide (show evRow A S N = _ by unfold evRow; rw [hse, hte])
        clear CS hse hte
        go_wp2_with fail
        refine (CA.out _).mono ?_; rintro x w1 ⟨rfl, rfl⟩
        obtain rfl | rfl | rfl | rfl | rfl | rfl : t = 0 ∨ t = 1 ∨ t = 2 ∨ t = 3 ∨ t = 4 ∨ t = 5 := by omega
        · have HV : Hid (evRow (z k 0) (z k 1) (z k 2) = ⟨1, s, brI N 9007199254740992, 1 + brI N 65535⟩) := hide (HR.out.trans (HRW.out.trans (by simp)))
          have C1 := hide (fun w => CN.out 9007199254740992 w (by decide) (by decide))
          have r1 := brI_in N 9007199254740992 (by decide)
          obtain ⟨x1, hx1⟩ : ∃ x, brI N 9007199254740992 = x := ⟨_, rfl⟩
          rw [hx1] at r1 HV C1
          clear hx1
          have C2 := hide (fun w => CN.out 65535 w (by decide) (by decide))
          have r2 := brI_in N 65535 (by decide)
          obtain ⟨x2, hx2⟩ : ∃ x, brI N 65535 = x := ⟨_, rfl⟩
          rw [hx2] at r2 HV C2
          clear hx2
          clear CN HRW HR
          go_wp2_with fail
          refine (C1.out _).mono ?_; rintro x w1 ⟨rfl, rfl⟩
          go_wp2_with fail
          refine (C2.out _).mono ?_; rintro x w1 ⟨rfl, rfl⟩
          go_wp2_with (at_builtin; refine wpList_append_own _ rfl _ _ 41 rfl w.heap.size 52 i0 (.agg #[.int .i64 0, .int .i64 0, .int .i64 0, .int .i64 0]) 4 32 Tryd.underlying41 hi hz0 hz1 hz2 rfl (by decide) _ _ _ rfl (hown.alloc _) ⟨w1.heap.size, 0, none⟩ 1 1 [.int .i64 (1), .int .i64 (s), .int .i64 (x1), .int .i64 (1 + x2)] rfl rfl ?c1 ?c2 ?c3 ?c4 ?c5 ?_)
          case c1 => exact World.news_of_block (heap_at (w := w1) (.cells #[.int .i64 (1), .int .i64 (s), .int .i64 (x1), .int .i64 (1 + x2)] 52) rfl)
          case c2 => simp [Value.oneCell']
          case c3 => unfold maxLen; omega
          case c4 => omega
          case c5 => have := hB.size; simp; omega
          intro v' w3 hown' hgrow _
          have HP := hide (made_push HV.out hown hB hown' hgrow)
          clear hown' hgrow
          go_wp2_with fail
          go_roundw
          case rel => exact ⟨k + 1, by go_num, by omega, by omega, HP.out.1, HP.out.2⟩
          case measure => simp [intOf]; omega
        · have HV : Hid (evRow (z k 0) (z k 1) (z k 2) = ⟨2, s, brI N 9007199254740992, 1 + brI (N.tdiv 7) 65535⟩) := hide (HR.out.trans (HRW.out.trans (by simp)))
          have C1 := hide (fun w => CN.out 9007199254740992 w (by decide) (by decide))
          have r1 := brI_in N 9007199254740992 (by decide)
          obtain ⟨x1, hx1⟩ : ∃ x, brI N 9007199254740992 = x := ⟨_, rfl⟩
          rw [hx1] at r1 HV C1
          clear hx1
          have hq : -9223372036854775808 ≤ N.tdiv 7 ∧ N.tdiv 7 ≤ 9223372036854775807 := tdiv7 N HT.out
          have CQ := hide (fun w => br (N.tdiv 7) 65535 w hq (by decide) (by decide))
          have r2 := brI_in (N.tdiv 7) 65535 (by decide)
          obtain ⟨x2, hx2⟩ : ∃ x, brI (N.tdiv 7) 65535 = x := ⟨_, rfl⟩
          rw [hx2] at r2 HV CQ
          have C2 := CQ
          clear hx2 CQ
          clear CN HRW HR
          go_wp2_with fail
          refine (C1.out _).mono ?_; rintro x w1 ⟨rfl, rfl⟩
          go_wp2_with fail
          refine (C2.out _).mono ?_; rintro x w1 ⟨rfl, rfl⟩
          go_wp2_with (at_builtin; refine wpList_append_own _ rfl _ _ 41 rfl w.heap.size 52 i0 (.agg #[.int .i64 0, .int .i64 0, .int .i64 0, .int .i64 0]) 4 32 Tryd.underlying41 hi hz0 hz1 hz2 rfl (by decide) _ _ _ rfl (hown.alloc _) ⟨w1.heap.size, 0, none⟩ 1 1 [.int .i64 (2), .int .i64 (s), .int .i64 (x1), .int .i64 (1 + x2)] rfl rfl ?c1 ?c2 ?c3 ?c4 ?c5 ?_)
          case c1 => exact World.news_of_block (heap_at (w := w1) (.cells #[.int .i64 (2), .int .i64 (s), .int .i64 (x1), .int .i64 (1 + x2)] 52) rfl)
          case c2 => simp [Value.oneCell']
          case c3 => unfold maxLen; omega
          case c4 => omega
          case c5 => have := hB.size; simp; omega
          intro v' w3 hown' hgrow _
          have HP := hide (made_push HV.out hown hB hown' hgrow)
          clear hown' hgrow
          go_wp2_with fail
          go_roundw
          case rel => exact ⟨k + 1, by go_num, by omega, by omega, HP.out.1, HP.out.2⟩
          case measure => simp [intOf]; omega
        · have HV : Hid (evRow (z k 0) (z k 1) (z k 2) = ⟨3, s, 0, 1 + brI N 2⟩) := hide (HR.out.trans (HRW.out.trans (by simp)))
          have C1 := hide (fun w => CN.out 2 w (by decide) (by decide))
          have r1 := brI_in N 2 (by decide)
          obtain ⟨x1, hx1⟩ : ∃ x, brI N 2 = x := ⟨_, rfl⟩
          rw [hx1] at r1 HV C1
          clear hx1
          clear CN HRW HR
          go_wp2_with fail
          refine (C1.out _).mono ?_; rintro x w1 ⟨rfl, rfl⟩
          go_wp2_with (at_builtin; refine wpList_append_own _ rfl _ _ 41 rfl w.heap.size 52 i0 (.agg #[.int .i64 0, .int .i64 0, .int .i64 0, .int .i64 0]) 4 32 Tryd.underlying41 hi hz0 hz1 hz2 rfl (by decide) _ _ _ rfl (hown.alloc _) ⟨w1.heap.size, 0, none⟩ 1 1 [.int .i64 (3), .int .i64 (s), .int .i64 (0), .int .i64 (1 + x1)] rfl rfl ?c1 ?c2 ?c3 ?c4 ?c5 ?_)
          case c1 => exact World.news_of_block (heap_at (w := w1) (.cells #[.int .i64 (3), .int .i64 (s), .int .i64 (0), .int .i64 (1 + x1)] 52) rfl)
          case c2 => simp [Value.oneCell']
          case c3 => unfold maxLen; omega
          case c4 => omega
          case c5 => have := hB.size; simp; omega
          intro v' w3 hown' hgrow _
          have HP := hide (made_push HV.out hown hB hown' hgrow)
          clear hown' hgrow
          go_wp2_with fail
          go_roundw
          case rel => exact ⟨k + 1, by go_num, by omega, by omega, HP.out.1, HP.out.2⟩
          case measure => simp [intOf]; omega
        · have HV : Hid (evRow (z k 0) (z k 1) (z k 2) = ⟨4, 0, 0, 2400 + brI N 1099511625377⟩) := hide (HR.out.trans (HRW.out.trans (by simp)))
          have C1 := hide (fun w => CN.out 1099511625377 w (by decide) (by decide))
          have r1 := brI_in N 1099511625377 (by decide)
          obtain ⟨x1, hx1⟩ : ∃ x, brI N 1099511625377 = x := ⟨_, rfl⟩
          rw [hx1] at r1 HV C1
          clear hx1
          clear CN HRW HR
          go_wp2_with fail
          refine (C1.out _).mono ?_; rintro x w1 ⟨rfl, rfl⟩
          go_wp2_with (at_builtin; refine wpList_append_own _ rfl _ _ 41 rfl w.heap.size 52 i0 (.agg #[.int .i64 0, .int .i64 0, .int .i64 0, .int .i64 0]) 4 32 Tryd.underlying41 hi hz0 hz1 hz2 rfl (by decide) _ _ _ rfl (hown.alloc _) ⟨w1.heap.size, 0, none⟩ 1 1 [.int .i64 (4), .int .i64 (0), .int .i64 (0), .int .i64 (2400 + x1)] rfl rfl ?c1 ?c2 ?c3 ?c4 ?c5 ?_)
          case c1 => exact World.news_of_block (heap_at (w := w1) (.cells #[.int .i64 (4), .int .i64 (0), .int .i64 (0), .int .i64 (2400 + x1)] 52) rfl)
          case c2 => simp [Value.oneCell']
          case c3 => unfold maxLen; omega
          case c4 => omega
          case c5 => have := hB.size; simp; omega
          intro v' w3 hown' hgrow _
          have HP := hide (made_push HV.out hown hB hown' hgrow)
          clear hown' hgrow
          go_wp2_with fail
          go_roundw
          case rel => exact ⟨k + 1, by go_num, by omega, by omega, HP.out.1, HP.out.2⟩
          case measure => simp [intOf]; omega
        · have HV : Hid (evRow (z k 0) (z k 1) (z k 2) = ⟨5, s, 0, 0⟩) := hide (HR.out.trans (HRW.out.trans (by simp)))
          clear CN HRW HR
          go_wp2_with (at_builtin; refine wpList_append_own _ rfl _ _ 41 rfl w.heap.size 52 i0 (.agg #[.int .i64 0, .int .i64 0, .int .i64 0, .int .i64 0]) 4 32 Tryd.underlying41 hi hz0 hz1 hz2 rfl (by decide) _ _ _ rfl (hown.alloc _) ⟨w1.heap.size, 0, none⟩ 1 1 [.int .i64 (5), .int .i64 (s), .int .i64 (0), .int .i64 (0)] rfl rfl ?c1 ?c2 ?c3 ?c4 ?c5 ?_)
          case c1 => exact World.news_of_block (heap_at (w := w1) (.cells #[.int .i64 (5), .int .i64 (s), .int .i64 (0), .int .i64 (0)] 52) rfl)
          case c2 => simp [Value.oneCell']
          case c3 => unfold maxLen; omega
          case c4 => omega
          case c5 => have := hB.size; simp; omega
          intro v' w3 hown' hgrow _
          have HP := hide (made_push HV.out hown hB hown' hgrow)
          clear hown' hgrow
          go_wp2_with fail
          go_roundw
          case rel => exact ⟨k + 1, by go_num, by omega, by omega, HP.out.1, HP.out.2⟩
          case measure => simp [intOf]; omega
        · have HV : Hid (evRow (z k 0) (z k 1) (z k 2) = ⟨6, 0, 0, 1 + brI N 999⟩) := hide (HR.out.trans (HRW.out.trans (by simp)))
          have C1 := hide (fun w => CN.out 999 w (by decide) (by decide))
          have r1 := brI_in N 999 (by decide)
          obtain ⟨x1, hx1⟩ : ∃ x, brI N 999 = x := ⟨_, rfl⟩
          rw [hx1] at r1 HV C1
          clear hx1
          clear CN HRW HR
          go_wp2_with fail
          refine (C1.out _).mono ?_; rintro x w1 ⟨rfl, rfl⟩
          go_wp2_with (at_builtin; refine wpList_append_own _ rfl _ _ 41 rfl w.heap.size 52 i0 (.agg #[.int .i64 0, .int .i64 0, .int .i64 0, .int .i64 0]) 4 32 Tryd.underlying41 hi hz0 hz1 hz2 rfl (by decide) _ _ _ rfl (hown.alloc _) ⟨w1.heap.size, 0, none⟩ 1 1 [.int .i64 (6), .int .i64 (0), .int .i64 (0), .int .i64 (1 + x1)] rfl rfl ?c1 ?c2 ?c3 ?c4 ?c5 ?_)
          case c1 => exact World.news_of_block (heap_at (w := w1) (.cells #[.int .i64 (6), .int .i64 (0), .int .i64 (0), .int .i64 (1 + x1)] 52) rfl)
          case c2 => simp [Value.oneCell']
          case c3 => unfold maxLen; omega
          case c4 => omega
          case c5 => have := hB.size; simp; omega
          intro v' w3 hown' hgrow _
          have HP := hide (made_push HV.out hown hB hown' hgrow)
          clear hown' hgrow
          go_wp2_with fail
          go_roundw
          case rel => exact ⟨k + 1, by go_num, by omega, by omega, HP.out.1, HP.out.2⟩
          case measure => simp [intOf]; omega
      · obtain rfl : k = 300 := by omega
        have hm : min len 300 = 300 := by omega
        have HM := hide hm
        clear hm
        go_wp2_with fail
        go_ret
        exact ⟨_, rfl, by rw [HM.out]; exact hown, hB⟩
    · obtain rfl : k = len := by omega
      have hm : min k 300 = k := by omega
      have HM := hide hm
      clear hm
      go_wp2_with fail
      go_ret
      exact ⟨_, rfl, by rw [HM.out]; exact hown, hB⟩
end Go.Proofs.YtjhkgoppopfoaaaDoor
