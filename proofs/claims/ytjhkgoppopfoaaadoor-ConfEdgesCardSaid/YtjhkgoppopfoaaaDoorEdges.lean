/-
  The walk of ConfEdges: it answers true for every input, and turns nothing that was there.
-/
import Derived.Test.YtjhkgoppopfoaaaDoorConfw
import Derived.Test.YtjhkgoppopfoaaaDoorMade
namespace Go.Proofs.YtjhkgoppopfoaaaDoor
open Go.RowKit Go.Lib
set_option linter.unusedVariables false
set_option linter.unusedSimpArgs false
theorem check_yes (c : Cf) (w : World) (h : c.ok) : Calls Tryd.prog 16 #[c.val] w fun e w' => e = .returned (.int .i64 0) ∧ Below w.heap.size w w' := by
  have := check_any c w
  rwa [show errOf c = 0 from by unfold errOf; rw [if_pos h]] at this
theorem check_no (c : Cf) (w : World) (h : ¬ c.ok) : Calls Tryd.prog 16 #[c.val] w fun e w' => e = .returned (.int .i64 9) ∧ Below w.heap.size w w' := by
  have := check_any c w
  rwa [show errOf c = 9 from by unfold errOf; rw [if_neg h]] at this
theorem edge_0_l (c : Cf) (h : c.ok) : ({ c with fi := 2 * c.dg } : Cf).ok ∧ ¬ ({ c with fi := 2 * c.dg - 1 } : Cf).ok := by
  obtain ⟨sv, dg, fi, mo, rt, md, ex, bu, ro, ba⟩ := c
  simp only [Cf.ok] at h ⊢
  omega
theorem edge_0_h (c : Cf) (h : c.ok) : ({ c with fi := c.mo } : Cf).ok ∧ ¬ ({ c with fi := c.mo + 1 } : Cf).ok := by
  obtain ⟨sv, dg, fi, mo, rt, md, ex, bu, ro, ba⟩ := c
  simp only [Cf.ok] at h ⊢
  omega
theorem edge_1_l (c : Cf) (h : c.ok) : ({ c with fi := 2 * c.dg, mo := 2 * c.dg } : Cf).ok ∧ ¬ ({ c with fi := 2 * c.dg, mo := 2 * c.dg - 1 } : Cf).ok := by
  obtain ⟨sv, dg, fi, mo, rt, md, ex, bu, ro, ba⟩ := c
  simp only [Cf.ok] at h ⊢
  omega
theorem edge_1_h (c : Cf) (h : c.ok) : ({ c with mo := 1099511627776 } : Cf).ok ∧ ¬ ({ c with mo := 1099511627776 + 1 } : Cf).ok := by
  obtain ⟨sv, dg, fi, mo, rt, md, ex, bu, ro, ba⟩ := c
  simp only [Cf.ok] at h ⊢
  omega
theorem edge_2_l (c : Cf) (h : c.ok) : ({ c with rt := 1000000 } : Cf).ok ∧ ¬ ({ c with rt := 1000000 - 1 } : Cf).ok := by
  obtain ⟨sv, dg, fi, mo, rt, md, ex, bu, ro, ba⟩ := c
  simp only [Cf.ok] at h ⊢
  omega
theorem edge_2_h (c : Cf) (h : c.ok) : ({ c with rt := 60000000000 } : Cf).ok ∧ ¬ ({ c with rt := 60000000000 + 1 } : Cf).ok := by
  obtain ⟨sv, dg, fi, mo, rt, md, ex, bu, ro, ba⟩ := c
  simp only [Cf.ok] at h ⊢
  omega
theorem edge_3_l (c : Cf) (h : c.ok) : ({ c with md := 0 } : Cf).ok ∧ ¬ ({ c with md := 0 - 1 } : Cf).ok := by
  obtain ⟨sv, dg, fi, mo, rt, md, ex, bu, ro, ba⟩ := c
  simp only [Cf.ok] at h ⊢
  omega
theorem edge_3_h (c : Cf) (h : c.ok) : ({ c with md := 16384000000 } : Cf).ok ∧ ¬ ({ c with md := 16384000000 + 1 } : Cf).ok := by
  obtain ⟨sv, dg, fi, mo, rt, md, ex, bu, ro, ba⟩ := c
  simp only [Cf.ok] at h ⊢
  omega
theorem edge_4_l (c : Cf) (h : c.ok) : ({ c with ex := 0 } : Cf).ok ∧ ¬ ({ c with ex := 0 - 1 } : Cf).ok := by
  obtain ⟨sv, dg, fi, mo, rt, md, ex, bu, ro, ba⟩ := c
  simp only [Cf.ok] at h ⊢
  omega
theorem edge_4_h (c : Cf) (h : c.ok) : ({ c with ex := 20 } : Cf).ok ∧ ¬ ({ c with ex := 20 + 1 } : Cf).ok := by
  obtain ⟨sv, dg, fi, mo, rt, md, ex, bu, ro, ba⟩ := c
  simp only [Cf.ok] at h ⊢
  omega
theorem edge_5_l (c : Cf) (h : c.ok) : ({ c with bu := c.dg } : Cf).ok ∧ ¬ ({ c with bu := c.dg - 1 } : Cf).ok := by
  obtain ⟨sv, dg, fi, mo, rt, md, ex, bu, ro, ba⟩ := c
  simp only [Cf.ok] at h ⊢
  omega
theorem edge_5_h (c : Cf) (h : c.ok) : ({ c with bu := 1073741824 } : Cf).ok ∧ ¬ ({ c with bu := 1073741824 + 1 } : Cf).ok := by
  obtain ⟨sv, dg, fi, mo, rt, md, ex, bu, ro, ba⟩ := c
  simp only [Cf.ok] at h ⊢
  omega
theorem edge_6_l (c : Cf) (h : c.ok) : ({ c with ro := 2 } : Cf).ok ∧ ¬ ({ c with ro := 2 - 1 } : Cf).ok := by
  obtain ⟨sv, dg, fi, mo, rt, md, ex, bu, ro, ba⟩ := c
  simp only [Cf.ok] at h ⊢
  omega
theorem edge_6_h (c : Cf) (h : c.ok) : ({ c with ro := 256 } : Cf).ok ∧ ¬ ({ c with ro := 256 + 1 } : Cf).ok := by
  obtain ⟨sv, dg, fi, mo, rt, md, ex, bu, ro, ba⟩ := c
  simp only [Cf.ok] at h ⊢
  omega
theorem edge_7_l (c : Cf) (h : c.ok) : ({ c with ba := 0 } : Cf).ok ∧ ¬ ({ c with ba := 0 - 1 } : Cf).ok := by
  obtain ⟨sv, dg, fi, mo, rt, md, ex, bu, ro, ba⟩ := c
  simp only [Cf.ok] at h ⊢
  omega
theorem edge_7_h (c : Cf) (h : c.ok) : ({ c with ba := 10 } : Cf).ok ∧ ¬ ({ c with ba := 10 + 1 } : Cf).ok := by
  obtain ⟨sv, dg, fi, mo, rt, md, ex, bu, ro, ba⟩ := c
  simp only [Cf.ok] at h ⊢
  omega
def EdRel (w W : World) (b : Nat) (c : Cf) : Prop := IsCf W b c ∧ w.heap.size ≤ b ∧ Gd W ∧ Below w.heap.size w W
theorem EdRel.keep {w W W' : World} {b : Nat} {c : Cf} (h : EdRel w W b c) (hb : Below W.heap.size W W') : EdRel w W' b c := ⟨h.1.keep hb, h.2.1, h.2.2.1.keep hb, below_after h.2.2.2 hb⟩
theorem EdRel.lt {w W : World} {b : Nat} {c : Cf} (h : EdRel w W b c) : b < W.heap.size := block_lt_of_cell h.1.h0
theorem frozen_old {w : World} {b i : Nat} {o : Obj} (h : w.frozen? ⟨b, i, none⟩ = false) (hb : b < w.heap.size) : (w.alloc o).frozen? ⟨b, i, none⟩ = false := by
  rw [← h]
  simp only [World.frozen?, heap_old o hb]
theorem EdRel.first {w W : World} {b : Nat} {c : Cf} (h : EdRel w W b c) (hf : W.frozen? ⟨b, 2, none⟩ = false) (hw : 8 ≤ w.heap.size) : EdRel w (W.setCell ⟨b, 2, none⟩ (.int .i64 (2 * c.dg))) b { c with fi := 2 * c.dg } := by
  obtain ⟨⟨h0, h1, h2, h3, h4, h5, h6, h7, h8, h9⟩, hb, hg, hB⟩ := h
  have oth : ∀ i v, W.cell? ⟨b, i, none⟩ = some v → i ≠ 2 → (W.setCell ⟨b, 2, none⟩ (.int .i64 (2 * c.dg))).cell? ⟨b, i, none⟩ = some v := fun i v hv hi => by
    rw [World.cell?_setCell_other]
    · exact hv
    all_goals (first | exact hi | (simp; omega) | simp [hi] | (intro e; exact hi (by simpa using e)))
  refine ⟨⟨oth 0 _ h0 (by decide), oth 1 _ h1 (by decide), World.cell?_setCell_same _ _ _ h2, oth 3 _ h3 (by decide), oth 4 _ h4 (by decide), oth 5 _ h5 (by decide), oth 6 _ h6 (by decide), oth 7 _ h7 (by decide), oth 8 _ h8 (by decide), oth 9 _ h9 (by decide)⟩, hb, ?_, hB.setCell hb _⟩
  exact hg.keepB (Below.setCell (Below.refl b W) (p := ⟨b, 2, none⟩) (Nat.le_refl _) _) (Nat.le_trans hw hb)
set_option maxRecDepth 100000 in
set_option maxHeartbeats 16000000 in
theorem confEdges_any (l : L9) (wh : Int) (hg : Bool) (w : World) (g : Gd w) (hl : l.wf) (hwh : IsI wh) : Calls Tryd.prog 3 #[l.val, .int .i64 wh, .bool hg] w fun e w' => e = .returned (.bool true) ∧ Below w.heap.size w w' := by
  have hk := brI_in wh 8 (by decide)
  obtain ⟨k, hkd⟩ : ∃ k, brI wh 8 = k := ⟨_, rfl⟩
  rw [hkd] at hk
  have HK := hide hkd
  clear hkd
  have hnot : ∀ (x : Bool) (w : World), (Op.unary .not (.bool x)).run Tryd.prog w = .ok (.bool (!x)) w := fun _ _ => rfl
  have hmade := made_any l false
  have hcok := mk_ok l false
  generalize mk l false = c at hmade hcok
  have HM := hide hmade
  have HCOK := hide hcok
  obtain ⟨hr1, hr2, hr3, hr4, hr5, hr6, hr7, hr8, hr9⟩ := hcok
  clear hmade
  obtain ⟨a0, a1, a2, a3, a4, a5, a6, a7, a8⟩ := l
  simp only [L9.val] at HM ⊢
  go_enter Tryd.func3, Tryd.ntmps3
  go_wp2_with fail
  refine (HM.out _ hl).mono ?_; rintro e w1 ⟨rfl, hb1⟩
  have bel1 := below_after (below_alloc1 w (.cells #[.int .i64 a0, .int .i64 a1, .int .i64 a2, .int .i64 a3, .int .i64 a4, .int .i64 a5, .int .i64 a6, .int .i64 a7, .int .i64 a8] 22)) hb1
  clear hb1
  have g1 := g.keep bel1
  have hc := (IsCf.of_block (w := w1.alloc (.cells c.cells 24)) (heap_at _ rfl) : IsCf _ w1.heap.size c)
  have hb2 := below_alloc1 w1 (.cells c.cells 24)
  have hf : (w1.alloc (.cells c.cells 24)).frozen? ⟨w1.heap.size, 2, none⟩ = false := frozen_at (heap_at _ rfl) 2
  have hA : EdRel w (w1.alloc (.cells c.cells 24)) w1.heap.size c := ⟨hc, bel1.size, g1.keep hb2, below_after bel1 hb2⟩
  obtain ⟨c0, c1, c2, c3, c4, c5, c6, c7, c8, c9⟩ := hc
  simp only [Cf.val, Cf.cells] at hA hf c0 c1 c2 c3 c4 c5 c6 c7 c8 c9 ⊢
  clear g1 bel1 hb2
  go_wp2_with fail
  refine (bring_eq wh 8 k _ hwh.1 hwh.2 (by decide) (by decide) HK.out).mono ?_; rintro e w' ⟨rfl, rfl⟩
  obtain ⟨W, hW⟩ : ∃ W, W = (w1.alloc (.cells #[.bool c.sv, .int .i64 c.dg, .int .i64 c.fi, .int .i64 c.mo, .int .i64 c.rt, .int .i64 c.md, .int .i64 c.ex, .int .i64 c.bu, .int .i64 c.ro, .int .i64 c.ba] 24)) := ⟨_, rfl⟩
  obtain ⟨b, hb⟩ : ∃ b, b = w1.heap.size := ⟨_, rfl⟩
  rw [← hW] at hA hf c0 c1 c2 c3 c4 c5 c6 c7 c8 c9 ⊢
  rw [← hb] at hA hf c0 c1 c2 c3 c4 c5 c6 c7 c8 c9 ⊢
  clear hW hb
  have hA4 := hA.keep (below_alloc1 W (.cells #[.int .i64 (2 * c.dg), .int .i64 (2 * c.dg), .int .i64 1000000, .int .i64 0, .int .i64 0, .int .i64 c.dg, .int .i64 2, .int .i64 0] 3))
  have hA5 := hA4.keep (below_alloc1 _ (.cells #[.int .i64 c.mo, .int .i64 1099511627776, .int .i64 60000000000, .int .i64 16384000000, .int .i64 20, .int .i64 1073741824, .int .i64 256, .int .i64 10] 3))
  have hf5 : ((W.alloc (.cells #[.int .i64 (2 * c.dg), .int .i64 (2 * c.dg), .int .i64 1000000, .int .i64 0, .int .i64 0, .int .i64 c.dg, .int .i64 2, .int .i64 0] 3)).alloc (.cells #[.int .i64 c.mo, .int .i64 1099511627776, .int .i64 60000000000, .int .i64 16384000000, .int .i64 20, .int .i64 1073741824, .int .i64 256, .int .i64 10] 3)).frozen? ⟨b, 2, none⟩ = false := frozen_old (frozen_old hf hA.lt) (by have := hA.lt; simp; omega)
  have d3 := hA4.1.h3
  obtain ⟨q0, q1, q2, q3, q4, q5, q6, q7, q8, q9⟩ := hA5.1
  obtain rfl | rfl | rfl | rfl | rfl | rfl | rfl | rfl : k = 0 ∨ k = 1 ∨ k = 2 ∨ k = 3 ∨ k = 4 ∨ k = 5 ∨ k = 6 ∨ k = 7 := by omega
  · cases hg
    · have hE := hide (edge_0_l c HCOK.out)
      go_wp2_with fail
      refine (with_any (c) ({ c with fi := 2 * c.dg }) 0 (2 * c.dg) _ (by decide) (by simp [Cf.with])).mono ?_; rintro e w3 ⟨rfl, hb3⟩
      have hA6 := hA5.keep hb3
      clear hb3
      go_wp2_with fail
      refine (check_yes ({ c with fi := 2 * c.dg }) _ hE.out.1).mono ?_; rintro e w4 ⟨rfl, hb4⟩
      have hA7 := hA6.keep hb4
      clear hb4 hA6
      obtain ⟨s0, s1, s2, s3, s4, s5, s6, s7, s8, s9⟩ := hA7.1
      go_wp2_with fail
      refine (with_any (c) ({ c with fi := 2 * c.dg - 1 }) 0 (2 * c.dg - 1) _ (by decide) (by simp [Cf.with])).mono ?_; rintro e w5 ⟨rfl, hb5⟩
      have hA8 := hA7.keep hb5
      clear hb5 s0 s1 s2 s3 s4 s5 s6 s7 s8 s9
      go_wp2_with fail
      refine (check_no ({ c with fi := 2 * c.dg - 1 }) _ hE.out.2).mono ?_; rintro e w6 ⟨rfl, hb6⟩
      have hA9 := hA8.keep hb6
      go_wp2_with fail
      refine (works20_any _ hA9.2.2.1).mono ?_; rintro e w7 ⟨rfl, hb7⟩
      go_wp2_with fail
      go_ret
      exact ⟨rfl, below_after hA9.2.2.2 hb7⟩
    · have hE := hide (edge_0_h c HCOK.out)
      go_wp2_with fail
      refine (with_any (c) ({ c with fi := c.mo }) 0 (c.mo) _ (by decide) (by simp [Cf.with])).mono ?_; rintro e w3 ⟨rfl, hb3⟩
      have hA6 := hA5.keep hb3
      clear hb3
      go_wp2_with fail
      refine (check_yes ({ c with fi := c.mo }) _ hE.out.1).mono ?_; rintro e w4 ⟨rfl, hb4⟩
      have hA7 := hA6.keep hb4
      clear hb4 hA6
      obtain ⟨s0, s1, s2, s3, s4, s5, s6, s7, s8, s9⟩ := hA7.1
      go_wp2_with fail
      refine (with_any (c) ({ c with fi := c.mo + 1 }) 0 (c.mo + 1) _ (by decide) (by simp [Cf.with])).mono ?_; rintro e w5 ⟨rfl, hb5⟩
      have hA8 := hA7.keep hb5
      clear hb5 s0 s1 s2 s3 s4 s5 s6 s7 s8 s9
      go_wp2_with fail
      refine (check_no ({ c with fi := c.mo + 1 }) _ hE.out.2).mono ?_; rintro e w6 ⟨rfl, hb6⟩
      have hA9 := hA8.keep hb6
      go_wp2_with fail
      refine (works20_any _ hA9.2.2.1).mono ?_; rintro e w7 ⟨rfl, hb7⟩
      go_wp2_with fail
      go_ret
      exact ⟨rfl, below_after hA9.2.2.2 hb7⟩
  · cases hg
    · have hE := hide (edge_1_l c HCOK.out)
      have hS := hA5.first hf5 g.sz
      obtain ⟨r0, r1, r2, r3, r4, r5, r6, r7, r8, r9⟩ := hS.1
      go_wp2_with fail
      refine (with_any ({ c with fi := 2 * c.dg }) ({ c with fi := 2 * c.dg, mo := 2 * c.dg }) 1 (2 * c.dg) _ (by decide) (by simp [Cf.with])).mono ?_; rintro e w3 ⟨rfl, hb3⟩
      have hA6 := hS.keep hb3
      clear hb3
      go_wp2_with fail
      refine (check_yes ({ c with fi := 2 * c.dg, mo := 2 * c.dg }) _ hE.out.1).mono ?_; rintro e w4 ⟨rfl, hb4⟩
      have hA7 := hA6.keep hb4
      clear hb4 hA6
      obtain ⟨s0, s1, s2, s3, s4, s5, s6, s7, s8, s9⟩ := hA7.1
      go_wp2_with fail
      refine (with_any ({ c with fi := 2 * c.dg }) ({ c with fi := 2 * c.dg, mo := 2 * c.dg - 1 }) 1 (2 * c.dg - 1) _ (by decide) (by simp [Cf.with])).mono ?_; rintro e w5 ⟨rfl, hb5⟩
      have hA8 := hA7.keep hb5
      clear hb5 s0 s1 s2 s3 s4 s5 s6 s7 s8 s9
      go_wp2_with fail
      refine (check_no ({ c with fi := 2 * c.dg, mo := 2 * c.dg - 1 }) _ hE.out.2).mono ?_; rintro e w6 ⟨rfl, hb6⟩
      have hA9 := hA8.keep hb6
      go_wp2_with fail
      refine (works20_any _ hA9.2.2.1).mono ?_; rintro e w7 ⟨rfl, hb7⟩
      go_wp2_with fail
      go_ret
      exact ⟨rfl, below_after hA9.2.2.2 hb7⟩
    · have hE := hide (edge_1_h c HCOK.out)
      go_wp2_with fail
      refine (with_any (c) ({ c with mo := 1099511627776 }) 1 (1099511627776) _ (by decide) (by simp [Cf.with])).mono ?_; rintro e w3 ⟨rfl, hb3⟩
      have hA6 := hA5.keep hb3
      clear hb3
      go_wp2_with fail
      refine (check_yes ({ c with mo := 1099511627776 }) _ hE.out.1).mono ?_; rintro e w4 ⟨rfl, hb4⟩
      have hA7 := hA6.keep hb4
      clear hb4 hA6
      obtain ⟨s0, s1, s2, s3, s4, s5, s6, s7, s8, s9⟩ := hA7.1
      go_wp2_with fail
      refine (with_any (c) ({ c with mo := 1099511627777 }) 1 (1099511627777) _ (by decide) (by simp [Cf.with])).mono ?_; rintro e w5 ⟨rfl, hb5⟩
      have hA8 := hA7.keep hb5
      clear hb5 s0 s1 s2 s3 s4 s5 s6 s7 s8 s9
      go_wp2_with fail
      refine (check_no ({ c with mo := 1099511627777 }) _ hE.out.2).mono ?_; rintro e w6 ⟨rfl, hb6⟩
      have hA9 := hA8.keep hb6
      go_wp2_with fail
      refine (works20_any _ hA9.2.2.1).mono ?_; rintro e w7 ⟨rfl, hb7⟩
      go_wp2_with fail
      go_ret
      exact ⟨rfl, below_after hA9.2.2.2 hb7⟩
  · cases hg
    · have hE := hide (edge_2_l c HCOK.out)
      go_wp2_with fail
      refine (with_any (c) ({ c with rt := 1000000 }) 2 (1000000) _ (by decide) (by simp [Cf.with])).mono ?_; rintro e w3 ⟨rfl, hb3⟩
      have hA6 := hA5.keep hb3
      clear hb3
      go_wp2_with fail
      refine (check_yes ({ c with rt := 1000000 }) _ hE.out.1).mono ?_; rintro e w4 ⟨rfl, hb4⟩
      have hA7 := hA6.keep hb4
      clear hb4 hA6
      obtain ⟨s0, s1, s2, s3, s4, s5, s6, s7, s8, s9⟩ := hA7.1
      go_wp2_with fail
      refine (with_any (c) ({ c with rt := 999999 }) 2 (999999) _ (by decide) (by simp [Cf.with])).mono ?_; rintro e w5 ⟨rfl, hb5⟩
      have hA8 := hA7.keep hb5
      clear hb5 s0 s1 s2 s3 s4 s5 s6 s7 s8 s9
      go_wp2_with fail
      refine (check_no ({ c with rt := 999999 }) _ hE.out.2).mono ?_; rintro e w6 ⟨rfl, hb6⟩
      have hA9 := hA8.keep hb6
      go_wp2_with fail
      refine (works20_any _ hA9.2.2.1).mono ?_; rintro e w7 ⟨rfl, hb7⟩
      go_wp2_with fail
      go_ret
      exact ⟨rfl, below_after hA9.2.2.2 hb7⟩
    · have hE := hide (edge_2_h c HCOK.out)
      go_wp2_with fail
      refine (with_any (c) ({ c with rt := 60000000000 }) 2 (60000000000) _ (by decide) (by simp [Cf.with])).mono ?_; rintro e w3 ⟨rfl, hb3⟩
      have hA6 := hA5.keep hb3
      clear hb3
      go_wp2_with fail
      refine (check_yes ({ c with rt := 60000000000 }) _ hE.out.1).mono ?_; rintro e w4 ⟨rfl, hb4⟩
      have hA7 := hA6.keep hb4
      clear hb4 hA6
      obtain ⟨s0, s1, s2, s3, s4, s5, s6, s7, s8, s9⟩ := hA7.1
      go_wp2_with fail
      refine (with_any (c) ({ c with rt := 60000000001 }) 2 (60000000001) _ (by decide) (by simp [Cf.with])).mono ?_; rintro e w5 ⟨rfl, hb5⟩
      have hA8 := hA7.keep hb5
      clear hb5 s0 s1 s2 s3 s4 s5 s6 s7 s8 s9
      go_wp2_with fail
      refine (check_no ({ c with rt := 60000000001 }) _ hE.out.2).mono ?_; rintro e w6 ⟨rfl, hb6⟩
      have hA9 := hA8.keep hb6
      go_wp2_with fail
      refine (works20_any _ hA9.2.2.1).mono ?_; rintro e w7 ⟨rfl, hb7⟩
      go_wp2_with fail
      go_ret
      exact ⟨rfl, below_after hA9.2.2.2 hb7⟩
  · cases hg
    · have hE := hide (edge_3_l c HCOK.out)
      go_wp2_with fail
      refine (with_any (c) ({ c with md := 0 }) 3 (0) _ (by decide) (by simp [Cf.with])).mono ?_; rintro e w3 ⟨rfl, hb3⟩
      have hA6 := hA5.keep hb3
      clear hb3
      go_wp2_with fail
      refine (check_yes ({ c with md := 0 }) _ hE.out.1).mono ?_; rintro e w4 ⟨rfl, hb4⟩
      have hA7 := hA6.keep hb4
      clear hb4 hA6
      obtain ⟨s0, s1, s2, s3, s4, s5, s6, s7, s8, s9⟩ := hA7.1
      go_wp2_with fail
      refine (with_any (c) ({ c with md := -1 }) 3 (-1) _ (by decide) (by simp [Cf.with])).mono ?_; rintro e w5 ⟨rfl, hb5⟩
      have hA8 := hA7.keep hb5
      clear hb5 s0 s1 s2 s3 s4 s5 s6 s7 s8 s9
      go_wp2_with fail
      refine (check_no ({ c with md := -1 }) _ hE.out.2).mono ?_; rintro e w6 ⟨rfl, hb6⟩
      have hA9 := hA8.keep hb6
      go_wp2_with fail
      refine (works20_any _ hA9.2.2.1).mono ?_; rintro e w7 ⟨rfl, hb7⟩
      go_wp2_with fail
      go_ret
      exact ⟨rfl, below_after hA9.2.2.2 hb7⟩
    · have hE := hide (edge_3_h c HCOK.out)
      go_wp2_with fail
      refine (with_any (c) ({ c with md := 16384000000 }) 3 (16384000000) _ (by decide) (by simp [Cf.with])).mono ?_; rintro e w3 ⟨rfl, hb3⟩
      have hA6 := hA5.keep hb3
      clear hb3
      go_wp2_with fail
      refine (check_yes ({ c with md := 16384000000 }) _ hE.out.1).mono ?_; rintro e w4 ⟨rfl, hb4⟩
      have hA7 := hA6.keep hb4
      clear hb4 hA6
      obtain ⟨s0, s1, s2, s3, s4, s5, s6, s7, s8, s9⟩ := hA7.1
      go_wp2_with fail
      refine (with_any (c) ({ c with md := 16384000001 }) 3 (16384000001) _ (by decide) (by simp [Cf.with])).mono ?_; rintro e w5 ⟨rfl, hb5⟩
      have hA8 := hA7.keep hb5
      clear hb5 s0 s1 s2 s3 s4 s5 s6 s7 s8 s9
      go_wp2_with fail
      refine (check_no ({ c with md := 16384000001 }) _ hE.out.2).mono ?_; rintro e w6 ⟨rfl, hb6⟩
      have hA9 := hA8.keep hb6
      go_wp2_with fail
      refine (works20_any _ hA9.2.2.1).mono ?_; rintro e w7 ⟨rfl, hb7⟩
      go_wp2_with fail
      go_ret
      exact ⟨rfl, below_after hA9.2.2.2 hb7⟩
  · cases hg
    · have hE := hide (edge_4_l c HCOK.out)
      go_wp2_with fail
      refine (with_any (c) ({ c with ex := 0 }) 4 (0) _ (by decide) (by simp [Cf.with])).mono ?_; rintro e w3 ⟨rfl, hb3⟩
      have hA6 := hA5.keep hb3
      clear hb3
      go_wp2_with fail
      refine (check_yes ({ c with ex := 0 }) _ hE.out.1).mono ?_; rintro e w4 ⟨rfl, hb4⟩
      have hA7 := hA6.keep hb4
      clear hb4 hA6
      obtain ⟨s0, s1, s2, s3, s4, s5, s6, s7, s8, s9⟩ := hA7.1
      go_wp2_with fail
      refine (with_any (c) ({ c with ex := -1 }) 4 (-1) _ (by decide) (by simp [Cf.with])).mono ?_; rintro e w5 ⟨rfl, hb5⟩
      have hA8 := hA7.keep hb5
      clear hb5 s0 s1 s2 s3 s4 s5 s6 s7 s8 s9
      go_wp2_with fail
      refine (check_no ({ c with ex := -1 }) _ hE.out.2).mono ?_; rintro e w6 ⟨rfl, hb6⟩
      have hA9 := hA8.keep hb6
      go_wp2_with fail
      refine (works20_any _ hA9.2.2.1).mono ?_; rintro e w7 ⟨rfl, hb7⟩
      go_wp2_with fail
      go_ret
      exact ⟨rfl, below_after hA9.2.2.2 hb7⟩
    · have hE := hide (edge_4_h c HCOK.out)
      go_wp2_with fail
      refine (with_any (c) ({ c with ex := 20 }) 4 (20) _ (by decide) (by simp [Cf.with])).mono ?_; rintro e w3 ⟨rfl, hb3⟩
      have hA6 := hA5.keep hb3
      clear hb3
      go_wp2_with fail
      refine (check_yes ({ c with ex := 20 }) _ hE.out.1).mono ?_; rintro e w4 ⟨rfl, hb4⟩
      have hA7 := hA6.keep hb4
      clear hb4 hA6
      obtain ⟨s0, s1, s2, s3, s4, s5, s6, s7, s8, s9⟩ := hA7.1
      go_wp2_with fail
      refine (with_any (c) ({ c with ex := 21 }) 4 (21) _ (by decide) (by simp [Cf.with])).mono ?_; rintro e w5 ⟨rfl, hb5⟩
      have hA8 := hA7.keep hb5
      clear hb5 s0 s1 s2 s3 s4 s5 s6 s7 s8 s9
      go_wp2_with fail
      refine (check_no ({ c with ex := 21 }) _ hE.out.2).mono ?_; rintro e w6 ⟨rfl, hb6⟩
      have hA9 := hA8.keep hb6
      go_wp2_with fail
      refine (works20_any _ hA9.2.2.1).mono ?_; rintro e w7 ⟨rfl, hb7⟩
      go_wp2_with fail
      go_ret
      exact ⟨rfl, below_after hA9.2.2.2 hb7⟩
  · cases hg
    · have hE := hide (edge_5_l c HCOK.out)
      go_wp2_with fail
      refine (with_any (c) ({ c with bu := c.dg }) 5 (c.dg) _ (by decide) (by simp [Cf.with])).mono ?_; rintro e w3 ⟨rfl, hb3⟩
      have hA6 := hA5.keep hb3
      clear hb3
      go_wp2_with fail
      refine (check_yes ({ c with bu := c.dg }) _ hE.out.1).mono ?_; rintro e w4 ⟨rfl, hb4⟩
      have hA7 := hA6.keep hb4
      clear hb4 hA6
      obtain ⟨s0, s1, s2, s3, s4, s5, s6, s7, s8, s9⟩ := hA7.1
      go_wp2_with fail
      refine (with_any (c) ({ c with bu := c.dg - 1 }) 5 (c.dg - 1) _ (by decide) (by simp [Cf.with])).mono ?_; rintro e w5 ⟨rfl, hb5⟩
      have hA8 := hA7.keep hb5
      clear hb5 s0 s1 s2 s3 s4 s5 s6 s7 s8 s9
      go_wp2_with fail
      refine (check_no ({ c with bu := c.dg - 1 }) _ hE.out.2).mono ?_; rintro e w6 ⟨rfl, hb6⟩
      have hA9 := hA8.keep hb6
      go_wp2_with fail
      refine (works20_any _ hA9.2.2.1).mono ?_; rintro e w7 ⟨rfl, hb7⟩
      go_wp2_with fail
      go_ret
      exact ⟨rfl, below_after hA9.2.2.2 hb7⟩
    · have hE := hide (edge_5_h c HCOK.out)
      go_wp2_with fail
      refine (with_any (c) ({ c with bu := 1073741824 }) 5 (1073741824) _ (by decide) (by simp [Cf.with])).mono ?_; rintro e w3 ⟨rfl, hb3⟩
      have hA6 := hA5.keep hb3
      clear hb3
      go_wp2_with fail
      refine (check_yes ({ c with bu := 1073741824 }) _ hE.out.1).mono ?_; rintro e w4 ⟨rfl, hb4⟩
      have hA7 := hA6.keep hb4
      clear hb4 hA6
      obtain ⟨s0, s1, s2, s3, s4, s5, s6, s7, s8, s9⟩ := hA7.1
      go_wp2_with fail
      refine (with_any (c) ({ c with bu := 1073741825 }) 5 (1073741825) _ (by decide) (by simp [Cf.with])).mono ?_; rintro e w5 ⟨rfl, hb5⟩
      have hA8 := hA7.keep hb5
      clear hb5 s0 s1 s2 s3 s4 s5 s6 s7 s8 s9
      go_wp2_with fail
      refine (check_no ({ c with bu := 1073741825 }) _ hE.out.2).mono ?_; rintro e w6 ⟨rfl, hb6⟩
      have hA9 := hA8.keep hb6
      go_wp2_with fail
      refine (works20_any _ hA9.2.2.1).mono ?_; rintro e w7 ⟨rfl, hb7⟩
      go_wp2_with fail
      go_ret
      exact ⟨rfl, below_after hA9.2.2.2 hb7⟩
  · cases hg
    · have hE := hide (edge_6_l c HCOK.out)
      go_wp2_with fail
      refine (with_any (c) ({ c with ro := 2 }) 6 (2) _ (by decide) (by simp [Cf.with])).mono ?_; rintro e w3 ⟨rfl, hb3⟩
      have hA6 := hA5.keep hb3
      clear hb3
      go_wp2_with fail
      refine (check_yes ({ c with ro := 2 }) _ hE.out.1).mono ?_; rintro e w4 ⟨rfl, hb4⟩
      have hA7 := hA6.keep hb4
      clear hb4 hA6
      obtain ⟨s0, s1, s2, s3, s4, s5, s6, s7, s8, s9⟩ := hA7.1
      go_wp2_with fail
      refine (with_any (c) ({ c with ro := 1 }) 6 (1) _ (by decide) (by simp [Cf.with])).mono ?_; rintro e w5 ⟨rfl, hb5⟩
      have hA8 := hA7.keep hb5
      clear hb5 s0 s1 s2 s3 s4 s5 s6 s7 s8 s9
      go_wp2_with fail
      refine (check_no ({ c with ro := 1 }) _ hE.out.2).mono ?_; rintro e w6 ⟨rfl, hb6⟩
      have hA9 := hA8.keep hb6
      go_wp2_with fail
      refine (works20_any _ hA9.2.2.1).mono ?_; rintro e w7 ⟨rfl, hb7⟩
      go_wp2_with fail
      go_ret
      exact ⟨rfl, below_after hA9.2.2.2 hb7⟩
    · have hE := hide (edge_6_h c HCOK.out)
      go_wp2_with fail
      refine (with_any (c) ({ c with ro := 256 }) 6 (256) _ (by decide) (by simp [Cf.with])).mono ?_; rintro e w3 ⟨rfl, hb3⟩
      have hA6 := hA5.keep hb3
      clear hb3
      go_wp2_with fail
      refine (check_yes ({ c with ro := 256 }) _ hE.out.1).mono ?_; rintro e w4 ⟨rfl, hb4⟩
      have hA7 := hA6.keep hb4
      clear hb4 hA6
      obtain ⟨s0, s1, s2, s3, s4, s5, s6, s7, s8, s9⟩ := hA7.1
      go_wp2_with fail
      refine (with_any (c) ({ c with ro := 257 }) 6 (257) _ (by decide) (by simp [Cf.with])).mono ?_; rintro e w5 ⟨rfl, hb5⟩
      have hA8 := hA7.keep hb5
      clear hb5 s0 s1 s2 s3 s4 s5 s6 s7 s8 s9
      go_wp2_with fail
      refine (check_no ({ c with ro := 257 }) _ hE.out.2).mono ?_; rintro e w6 ⟨rfl, hb6⟩
      have hA9 := hA8.keep hb6
      go_wp2_with fail
      refine (works20_any _ hA9.2.2.1).mono ?_; rintro e w7 ⟨rfl, hb7⟩
      go_wp2_with fail
      go_ret
      exact ⟨rfl, below_after hA9.2.2.2 hb7⟩
  · cases hg
    · have hE := hide (edge_7_l c HCOK.out)
      go_wp2_with fail
      refine (with_any (c) ({ c with ba := 0 }) 7 (0) _ (by decide) (by simp [Cf.with])).mono ?_; rintro e w3 ⟨rfl, hb3⟩
      have hA6 := hA5.keep hb3
      clear hb3
      go_wp2_with fail
      refine (check_yes ({ c with ba := 0 }) _ hE.out.1).mono ?_; rintro e w4 ⟨rfl, hb4⟩
      have hA7 := hA6.keep hb4
      clear hb4 hA6
      obtain ⟨s0, s1, s2, s3, s4, s5, s6, s7, s8, s9⟩ := hA7.1
      go_wp2_with fail
      refine (with_any (c) ({ c with ba := -1 }) 7 (-1) _ (by decide) (by simp [Cf.with])).mono ?_; rintro e w5 ⟨rfl, hb5⟩
      have hA8 := hA7.keep hb5
      clear hb5 s0 s1 s2 s3 s4 s5 s6 s7 s8 s9
      go_wp2_with fail
      refine (check_no ({ c with ba := -1 }) _ hE.out.2).mono ?_; rintro e w6 ⟨rfl, hb6⟩
      have hA9 := hA8.keep hb6
      go_wp2_with fail
      refine (works20_any _ hA9.2.2.1).mono ?_; rintro e w7 ⟨rfl, hb7⟩
      go_wp2_with fail
      go_ret
      exact ⟨rfl, below_after hA9.2.2.2 hb7⟩
    · have hE := hide (edge_7_h c HCOK.out)
      go_wp2_with fail
      refine (with_any (c) ({ c with ba := 10 }) 7 (10) _ (by decide) (by simp [Cf.with])).mono ?_; rintro e w3 ⟨rfl, hb3⟩
      have hA6 := hA5.keep hb3
      clear hb3
      go_wp2_with fail
      refine (check_yes ({ c with ba := 10 }) _ hE.out.1).mono ?_; rintro e w4 ⟨rfl, hb4⟩
      have hA7 := hA6.keep hb4
      clear hb4 hA6
      obtain ⟨s0, s1, s2, s3, s4, s5, s6, s7, s8, s9⟩ := hA7.1
      go_wp2_with fail
      refine (with_any (c) ({ c with ba := 11 }) 7 (11) _ (by decide) (by simp [Cf.with])).mono ?_; rintro e w5 ⟨rfl, hb5⟩
      have hA8 := hA7.keep hb5
      clear hb5 s0 s1 s2 s3 s4 s5 s6 s7 s8 s9
      go_wp2_with fail
      refine (check_no ({ c with ba := 11 }) _ hE.out.2).mono ?_; rintro e w6 ⟨rfl, hb6⟩
      have hA9 := hA8.keep hb6
      go_wp2_with fail
      refine (works20_any _ hA9.2.2.1).mono ?_; rintro e w7 ⟨rfl, hb7⟩
      go_wp2_with fail
      go_ret
      exact ⟨rfl, below_after hA9.2.2.2 hb7⟩
end Go.Proofs.YtjhkgoppopfoaaaDoor
