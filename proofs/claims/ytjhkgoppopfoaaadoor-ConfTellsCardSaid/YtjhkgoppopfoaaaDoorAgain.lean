/-
  The walk of ConfAgain.
-/
import Derived.Test.YtjhkgoppopfoaaaDoorConfw
import Derived.Test.YtjhkgoppopfoaaaDoorConft
namespace Go.Proofs.YtjhkgoppopfoaaaDoor
open Go.RowKit Go.Lib
set_option linter.unusedVariables false
set_option linter.unusedSimpArgs false

theorem check_ok (c : Cf) (w : World) (h : c.ok) : Calls Tryd.prog 16 #[c.val] w fun e w' => e = .returned (.int .i64 0) ∧ Below w.heap.size w w' := by
  have := check_any c w
  rwa [show errOf c = 0 from by unfold errOf; rw [if_pos h]] at this
theorem count_any (s : ByteArray) (n : Nat) (w : World) (h : s.data.toList.count 10 = n) : Calls Tryd.prog 29 #[.string s, .string ⟨#[10]⟩] w fun e w' => e = .returned (.int .i64 (n : Int)) ∧ w = w' :=
  (Tryd.strings_Count_one s 10 w).mono fun e w' ⟨a, b⟩ => ⟨by rw [a, ← h]; rfl, b.symm⟩
theorem eq_same (c : Cf) (w : World) : (binOp .eql 24 c.val c.val).run Tryd.prog w = .ok (.bool true) w := by
  have := eq_cf c c w
  simpa using this
theorem cut_size (s : ByteArray) : (s.extract 0 (min (s.size : Int) 2000).toNat).size ≤ 2000 := by
  rw [ByteArray.size_extract]; omega
set_option maxRecDepth 100000 in
set_option maxHeartbeats 4000000 in
theorem confAgain_any (s : ByteArray) (w : World) (g : Gd w) : Calls Tryd.prog 12 #[.string s] w fun e w' => e = .returned (.bool true) ∧ Below w.heap.size w w' := by
  have h2 := cut_size s
  go_enter Tryd.func12, Tryd.ntmps12
  go_wp2_with fail
  generalize s.extract 0 (min (s.size : Int) 2000).toNat = t at h2 ⊢
  have hl : t.data.toList.length = t.size := by cases t; simp [ByteArray.size]
  rcases parse_cases t.data.toList (by omega) with ⟨l, hp, l1, l2⟩ | hp | ⟨c, hok, hp⟩
  · refine (parse_eq t _ _ _ _ g hp).mono ?_; rintro e w1 ⟨rfl, hb1⟩
    have HP := hide hp
    have g1 := (g.keep hb1).box (.cells Cf.zero.cells 24)
    have hc := (IsCf.of_block (w := w1.alloc (.cells Cf.zero.cells 24)) (heap_at _ rfl) : IsCf _ w1.heap.size _)
    have hb2 := below_after hb1 (below_alloc1 w1 (.cells Cf.zero.cells 24))
    clear hp hb1
    obtain ⟨n, hn⟩ : ∃ n, t.data.toList.count 10 = n := ⟨_, rfl⟩
    rw [hn] at l2
    have HN := hide hn
    clear hn
    obtain ⟨c0, c1, c2, c3, c4, c5, c6, c7, c8, c9⟩ := hc
    simp only [Cf.val, Cf.cells, Cf.zero] at c0 c1 c2 c3 c4 c5 c6 c7 c8 c9 g1 hb2 ⊢
    go_wp2_with fail
    refine (count_any t n _ HN.out).mono ?_; rintro e w' ⟨rfl, rfl⟩
    have hw : IntKind.i64.wrap (1 + (n : Int)) = 1 + (n : Int) := by
      have : n ≤ 2000 := by have := List.count_le_length (a := (10 : UInt8)) (l := t.data.toList); have := HN.out; omega
      exact IntWalk.i64_in _ (by omega)
    have hle : (l : Int) ≤ 1 + (n : Int) := by omega
    go_wp2_with fail
    refine (works20_any _ g1).mono ?_; rintro e w2 ⟨rfl, hb3⟩
    go_wp2_with fail
    go_ret
    exact ⟨rfl, below_after hb2 hb3⟩
  · refine (parse_eq t _ _ _ _ g hp).mono ?_; rintro e w1 ⟨rfl, hb1⟩
    have g1 := (g.keep hb1).box (.cells Cf.zero.cells 24)
    have hc := (IsCf.of_block (w := w1.alloc (.cells Cf.zero.cells 24)) (heap_at _ rfl) : IsCf _ w1.heap.size _)
    have hb2 := below_after hb1 (below_alloc1 w1 (.cells Cf.zero.cells 24))
    clear hp hb1
    obtain ⟨c0, c1, c2, c3, c4, c5, c6, c7, c8, c9⟩ := hc
    simp only [Cf.val, Cf.cells, Cf.zero] at c0 c1 c2 c3 c4 c5 c6 c7 c8 c9 g1 hb2 ⊢
    go_wp2_with fail
    refine (works20_any _ g1).mono ?_; rintro e w2 ⟨rfl, hb3⟩
    go_wp2_with fail
    go_ret
    exact ⟨rfl, below_after hb2 hb3⟩
  · refine (parse_eq t _ _ _ _ g hp).mono ?_; rintro e w1 ⟨rfl, hb1⟩
    have g1 := (g.keep hb1).box (.cells c.cells 24)
    have hc := (IsCf.of_block (w := w1.alloc (.cells c.cells 24)) (heap_at _ rfl) : IsCf _ w1.heap.size c)
    have hb2 := below_after hb1 (below_alloc1 w1 (.cells c.cells 24))
    clear hp hb1
    have HC := hide hc
    obtain ⟨c0, c1, c2, c3, c4, c5, c6, c7, c8, c9⟩ := hc
    have HQ := hide (eq_same c)
    simp only [Cf.val, Cf.cells] at c0 c1 c2 c3 c4 c5 c6 c7 c8 c9 g1 hb2 HC ⊢
    go_wp2_with fail
    obtain ⟨W, hW⟩ : ∃ W, W = w1.alloc (.cells #[.bool c.sv, .int .i64 c.dg, .int .i64 c.fi, .int .i64 c.mo, .int .i64 c.rt, .int .i64 c.md, .int .i64 c.ex, .int .i64 c.bu, .int .i64 c.ro, .int .i64 c.ba] 24) := ⟨_, rfl⟩
    obtain ⟨b, hb⟩ : ∃ b, b = w1.heap.size := ⟨_, rfl⟩
    rw [← hW] at HC g1 hb2 ⊢
    rw [← hb] at HC ⊢
    clear hW hb c0 c1 c2 c3 c4 c5 c6 c7 c8 c9
    refine (text_yes c _ g1 hok).mono ?_; rintro e w2 ⟨rfl, hb3⟩
    have HC2 := hide (HC.out.keep hb3)
    have g2 := g1.keep hb3
    have hb4 := below_after hb2 hb3
    have HT := hide (parse_text hok)
    clear HC g1 hb2 hb3
    go_wp2_with fail
    refine (parse_eq _ _ _ _ _ g2 HT.out).mono ?_; rintro e w3 ⟨rfl, hb5⟩
    have HC3 := HC2.out.keep hb5
    have g3 := (g2.keep hb5).box (.cells c.cells 24)
    have hc := (IsCf.of_block (w := w3.alloc (.cells c.cells 24)) (heap_at _ rfl) : IsCf _ w3.heap.size c)
    have hb6 := below_after (below_after hb4 hb5) (below_alloc1 w3 (.cells c.cells 24))
    have HC4 := HC3.keep (below_alloc1 w3 (.cells c.cells 24))
    clear HC2 HC3 g2 hb4 hb5
    obtain ⟨c0, c1, c2, c3, c4, c5, c6, c7, c8, c9⟩ := hc
    obtain ⟨d0, d1, d2, d3, d4, d5, d6, d7, d8, d9⟩ := HC4
    have hQ := HQ.out
    simp only [Cf.val, Cf.cells] at c0 c1 c2 c3 c4 c5 c6 c7 c8 c9 d0 d1 d2 d3 d4 d5 d6 d7 d8 d9 g3 hb6 hQ ⊢
    go_wp2_with fail
    refine (check_ok c _ hok).mono ?_; rintro e w4 ⟨rfl, hb7⟩
    go_wp2_with fail
    refine (works20_any _ (g3.keep hb7)).mono ?_; rintro e w5 ⟨rfl, hb8⟩
    go_wp2_with fail
    go_ret
    exact ⟨rfl, below_after (below_after hb6 hb7) hb8⟩
end Go.Proofs.YtjhkgoppopfoaaaDoor
