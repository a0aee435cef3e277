/-
  The walk of ConfBack.
-/
import Derived.Test.YtjhkgoppopfoaaaDoorAgain
import Derived.Test.YtjhkgoppopfoaaaDoorMade
namespace Go.Proofs.YtjhkgoppopfoaaaDoor
open Go.RowKit Go.Lib
set_option linter.unusedVariables false
set_option linter.unusedSimpArgs false

def CfIn (w W : World) (b : Nat) (c : Cf) : Prop := IsCf W b c ∧ w.heap.size ≤ b ∧ Gd W ∧ Below w.heap.size w W
theorem CfIn.keep {w W W' : World} {b : Nat} {c : Cf} (h : CfIn w W b c) (hb : Below W.heap.size W W') : CfIn w W' b c := ⟨h.1.keep hb, h.2.1, h.2.2.1.keep hb, below_after h.2.2.2 hb⟩
/-- What Split hands back of a setting's text. -/
theorem split_any (s : ByteArray) (l : List Bs) (n : Nat) (w : World) (g : Gd w) (hs : s.size < 4294967281) (hl : spl 10 s.data.toList = l) (hn : l.length = n) :
    Calls Tryd.prog 20 #[.string s, .string ⟨#[10]⟩] w fun e w' => ∃ A, e = .returned (.slice (some ⟨A, 0, none⟩) n n) ∧ Below w.heap.size w w' ∧ ∃ ls : List ByteArray, ls.map (·.data.toList) = l ∧ w'.heap[A]? = some (.cells (ls.map Value.string).toArray 9 (0, 0)) := by
  obtain ⟨m, hm⟩ := g.mx
  refine (Tryd.strings_Split s ⟨#[10]⟩ m w hs hm (by decide)).mono ?_
  rintro e w' ⟨rfl, rfl⟩
  have h1 := splitB_spl 10 s
  rw [hl] at h1
  have h2 : countB s ⟨#[10]⟩ + 1 = n := by
    rw [← hn, ← h1, List.length_map, splitB_all ⟨#[10]⟩ (by decide) 0 _ s rfl]
  rw [h2]
  exact ⟨w.heap.size, rfl, below_alloc1 _ _, _, h1, heap_at _ rfl⟩
theorem rep_any (c : Cf) (hc : c.ok) (k : Nat) (hk : k < 10) (s : ByteArray) (w : World) (g : Gd w) (hs : s.data.toList = rowT c k) :
    Calls Tryd.prog 21 #[.string s, .string ⟨#[32]⟩, .string ⟨#[32, 32, 32]⟩] w fun e w' => e = .returned (.string ⟨(nm k ++ 32 :: 32 :: 32 :: itoa (c.num k)).toArray⟩) ∧ Below w.heap.size w w' := by
  obtain ⟨m, hm⟩ := g.mx
  have hl : s.size ≤ 25 := by
    have := rowT_len hc hk
    rw [← hs] at this
    have e : s.data.toList.length = s.size := by cases s; simp [ByteArray.size]
    omega
  have h3 := countB_le ⟨#[32]⟩ (by decide) s.size s (Nat.le_refl _)
  refine (Tryd.strings_ReplaceAll s ⟨#[32]⟩ ⟨#[32, 32, 32]⟩ m w (by omega) hm (by decide) ?_).mono ?_
  · have e : (⟨#[32, 32, 32]⟩ : ByteArray).size = 3 := rfl
    rw [e]; omega
  · rintro e w' ⟨rfl, hb⟩
    rw [hs]
    have := rowT_rep hc hk
    exact ⟨by rw [this], hb⟩
def BkAt (w wr : World) (b A : Nat) (c : Cf) (ls : List ByteArray) : Prop := CfIn w wr b c ∧ wr.heap[A]? = some (.cells (ls.map Value.string).toArray 9 (0, 0)) ∧ ls.map (·.data.toList) = (List.range 10).map (rowT c) ++ [[]]
theorem BkAt.keep {w wr w' : World} {b A : Nat} {c : Cf} {ls : List ByteArray} (h : BkAt w wr b A c ls) (hb : Below wr.heap.size wr w') : BkAt w w' b A c ls :=
  ⟨h.1.keep hb, (hb.block A (by rcases Nat.lt_or_ge A wr.heap.size with h' | h'; exact h'; have := h.2.1; rw [Array.getElem?_eq_none h'] at this; cases this)).trans h.2.1, h.2.2⟩
def BkRel (w : World) (b A : Nat) (c : Cf) (ls : List ByteArray) (s : Nat) (i t : Value) (wr : World) : Prop := ∃ k : Nat, i = .int .i64 (k : Int) ∧ k ≤ 10 ∧ t = .string ⟨(turnT c s k).toArray⟩ ∧ BkAt w wr b A c ls
theorem turn_step (c : Cf) (s k : Nat) : ((((⟨(turnT c s k).toArray⟩ : ByteArray) ++ ⟨#[32, 32]⟩) ++ ⟨(nm ((k + s) % 10) ++ 32 :: 32 :: 32 :: itoa (c.num ((k + s) % 10))).toArray⟩) ++ ⟨#[32, 10, 32, 35, 10]⟩) = ⟨(turnT c s (k + 1)).toArray⟩ := by
  rw [turnT_succ]
  apply ByteArray.ext
  simp [turnL]
theorem line_at {c : Cf} {ls : List ByteArray} (h : ls.map (·.data.toList) = (List.range 10).map (rowT c) ++ [[]]) {k : Nat} (hk : k < 10) : ∃ s : ByteArray, ls[k]? = some s ∧ s.data.toList = rowT c k := by
  have h1 : (ls.map (·.data.toList))[k]? = some (rowT c k) := by
    rw [h, List.getElem?_append_left (by simp; exact hk)]
    simp [hk]
  rw [List.getElem?_map] at h1
  cases hl : ls[k]? with
  | none => rw [hl] at h1; cases h1
  | some s => rw [hl] at h1; exact ⟨s, rfl, by simpa using h1⟩
set_option maxRecDepth 100000 in
set_option maxHeartbeats 4000000 in
theorem confBack_any (l : L9) (sv : Bool) (fr : Int) (w : World) (g : Gd w) (hl : l.wf) (hfr : IsI fr) : Calls Tryd.prog 4 #[l.val, .bool sv, .int .i64 fr] w fun e w' => e = .returned (.bool true) ∧ Below w.heap.size w w' := by
  have hmade := made_any l sv
  have hok := mk_ok l sv
  generalize mk l sv = c at hmade hok
  have HM := hide hmade
  clear hmade
  obtain ⟨a0, a1, a2, a3, a4, a5, a6, a7, a8⟩ := l
  simp only [L9.val] at HM ⊢
  go_enter Tryd.func4, Tryd.ntmps4
  go_wp2_with fail
  have hb0 := below_alloc1 w (.cells #[.int .i64 a0, .int .i64 a1, .int .i64 a2, .int .i64 a3, .int .i64 a4, .int .i64 a5, .int .i64 a6, .int .i64 a7, .int .i64 a8] 22)
  refine (works20_any _ (g.keep hb0)).mono ?_; rintro e w1 ⟨rfl, hb1⟩
  have hB := keep_heap hb1 (heap_at (w := w) (.cells #[.int .i64 a0, .int .i64 a1, .int .i64 a2, .int .i64 a3, .int .i64 a4, .int .i64 a5, .int .i64 a6, .int .i64 a7, .int .i64 a8] 22) rfl)
  have bel1 := below_after hb0 hb1
  have g1 := g.keep bel1
  clear hb0 hb1
  have k0 := cell_of (i := 0) hB rfl
  have k1 := cell_of (i := 1) hB rfl
  have k2 := cell_of (i := 2) hB rfl
  have k3 := cell_of (i := 3) hB rfl
  have k4 := cell_of (i := 4) hB rfl
  have k5 := cell_of (i := 5) hB rfl
  have k6 := cell_of (i := 6) hB rfl
  have k7 := cell_of (i := 7) hB rfl
  have k8 := cell_of (i := 8) hB rfl
  clear hB
  go_wp2_with fail
  refine (HM.out _ hl).mono ?_; rintro e w2 ⟨rfl, hb2⟩
  clear k0 k1 k2 k3 k4 k5 k6 k7 k8
  have bel2 := below_after bel1 hb2
  have g2 := g.keep bel2
  have hc := (IsCf.of_block (w := w2.alloc (.cells c.cells 24)) (heap_at _ rfl) : IsCf _ w2.heap.size c)
  have hA : CfIn w (w2.alloc (.cells c.cells 24)) w2.heap.size c := ⟨hc, bel2.size, g2.keep (below_alloc1 _ _), below_after bel2 (below_alloc1 _ _)⟩
  obtain ⟨W, hW⟩ : ∃ W, W = w2.alloc (.cells c.cells 24) := ⟨_, rfl⟩
  obtain ⟨b, hb⟩ : ∃ b, b = w2.heap.size := ⟨_, rfl⟩
  rw [← hW] at hA hc
  rw [← hb] at hA hc
  obtain ⟨c0, c1, c2, c3, c4, c5, c6, c7, c8, c9⟩ := hc
  simp only [Cf.val, Cf.cells] at hW ⊢
  clear bel1 g1 bel2 g2 hb2
  go_wp2_with fail
  rw [← hW, ← hb]
  clear hW hb
  clear c0 c1 c2 c3 c4 c5 c6 c7 c8 c9
  refine (text_yes c _ hA.2.2.1 hok).mono ?_; rintro e w3 ⟨rfl, hb3⟩
  have hA3 := hA.keep hb3
  clear hA hb3
  obtain ⟨c0, c1, c2, c3, c4, c5, c6, c7, c8, c9⟩ := hA3.1
  go_wp2_with fail
  refine (check_ok c _ hok).mono ?_; rintro e w4 ⟨rfl, hb4⟩
  have hA4 := hA3.keep hb4
  clear hA3 hb4 c0 c1 c2 c3 c4 c5 c6 c7 c8 c9
  go_wp2_with fail
  refine (split_any ⟨(textC c).toArray⟩ _ 11 _ hA4.2.2.1 ?_ (textC_spl hok) (by simp)).mono ?_
  · have := textC_len hok
    simp [ByteArray.size]; omega
  rintro e w5 ⟨A, rfl, hb5, ls, hls, hA⟩
  have hA5 : BkAt w w5 b A c ls := ⟨hA4.keep hb5, hA, hls⟩
  clear hA4 hb5 hA
  obtain ⟨s, hs, hs10⟩ : ∃ s : Nat, brI fr 10 = (s : Int) ∧ s < 10 := ⟨(brI fr 10).toNat, by have := brI_in fr 10 (by decide); omega, by have := brI_in fr 10 (by decide); omega⟩
  have HS := hide hs
  clear hs
  go_wp2_with fail
  go_loopw [12, 11] (BkRel w b A c ls s) (fun i _ _ => (10 - intOf i).toNat)
  case atStart => exact ⟨0, rfl, by omega, by simp [turnT], hA5⟩
  case round =>
    clear hA5
    obtain ⟨k, rfl, hk, rfl, hA⟩ := hrel
    have hlen := turnT_len hok s k
    by_cases h10 : k < 10
    · have hkl : (k : Int) < 10 := by omega
      obtain ⟨j, hj⟩ : ∃ j, (k + s) % 10 = j := ⟨_, rfl⟩
      have hj10 : j < 10 := by omega
      have hw1 : IntKind.i64.wrap ((k : Int) + (s : Int)) = (k : Int) + (s : Int) := IntWalk.i64_in _ (by omega)
      have hj1 : ((k : Int) + (s : Int)) % 10 = (j : Int) := by omega
      have hks : (0 : Int) ≤ (k : Int) + (s : Int) := by omega
      have hj0 : (0 : Int) ≤ (j : Int) := by omega
      have hj2 : (j : Int) < 11 := by omega
      obtain ⟨x, hx, hxd⟩ := line_at hA.2.2 hj10
      have hcell := cells_at hA.2.1 hx
      have hm1 : ¬ 9223372036854775807 < (turnT c s k).length + 2 := by omega
      have HJ := hide hj
      clear hj
      go_wp2_with fail
      refine (bring_eq fr 10 s _ hfr.1 hfr.2 (by decide) (by decide) HS.out).mono ?_; rintro e w' ⟨rfl, rfl⟩
      go_wp2_with fail
      refine (rep_any c hok j hj10 x _ hA.1.2.2.1 hxd).mono ?_; rintro e w' ⟨rfl, hb⟩
      have hA1 := hA.keep hb
      clear hA hb hcell
      obtain ⟨R, hR⟩ : ∃ R, nm j ++ 32 :: 32 :: 32 :: itoa (c.num j) = R := ⟨_, rfl⟩
      have hRl : R.length ≤ 30 := by
        have := turnL_len hok hj10
        unfold turnL at this
        rw [hR] at this
        simp only [List.length_append, List.length_cons, List.length_nil] at this
        omega
      have HR := hide hR
      rw [hR]
      clear hR
      have hm2 : ¬ 9223372036854775807 < (turnT c s k).length + 2 + R.length := by omega
      have hm3 : ¬ 9223372036854775807 < (turnT c s k).length + 2 + R.length + 5 := by omega
      go_wp2_with fail
      go_roundw
      case rel =>
        refine ⟨k + 1, by go_num, by omega, ?_, hA1⟩
        have := turn_step c s k
        rw [HJ.out, HR.out] at this
        rw [← this]
      case measure => simp [intOf]; omega
    · obtain rfl : k = 10 := by omega
      go_wp2_with fail
      refine (parse_eq _ _ _ _ _ hA.1.2.2.1 (parse_text hok)).mono ?_; rintro e w6 ⟨rfl, hb6⟩
      have hA6 := hA.1.keep hb6
      have hA7 := hA6.keep (below_alloc1 _ (.cells c.cells 24))
      have hc := (IsCf.of_block (w := w6.alloc (.cells c.cells 24)) (heap_at _ rfl) : IsCf _ w6.heap.size c)
      obtain ⟨W, hW⟩ : ∃ W, W = w6.alloc (.cells c.cells 24) := ⟨_, rfl⟩
      obtain ⟨b2, hb2⟩ : ∃ b, b = w6.heap.size := ⟨_, rfl⟩
      rw [← hW] at hA7 hc
      rw [← hb2] at hc
      simp only [Cf.val, Cf.cells] at hW ⊢
      clear hA hA6 hb6 hlen
      go_wp2_with fail
      rw [← hW, ← hb2]
      clear hW hb2
      refine (parse_eq _ _ _ _ _ hA7.2.2.1 (parse_turn hok s)).mono ?_; rintro e w7 ⟨rfl, hb7⟩
      have hA8 := (hA7.keep hb7).keep (below_alloc1 _ (.cells c.cells 24))
      have hc8 := (hc.keep hb7).keep (below_alloc1 _ (.cells c.cells 24))
      have hd := (IsCf.of_block (w := w7.alloc (.cells c.cells 24)) (heap_at _ rfl) : IsCf _ w7.heap.size c)
      have hQ := eq_same c
      clear hA7 hc hb7
      have hbel := hide hA8.2.2.2
      obtain ⟨⟨c0, c1, c2, c3, c4, c5, c6, c7, c8, c9⟩, -⟩ := hA8
      obtain ⟨d0, d1, d2, d3, d4, d5, d6, d7, d8, d9⟩ := hc8
      obtain ⟨e0, e1, e2, e3, e4, e5, e6, e7, e8, e9⟩ := hd
      simp only [Cf.val, Cf.cells] at c0 c1 c2 c3 c4 c5 c6 c7 c8 c9 d0 d1 d2 d3 d4 d5 d6 d7 d8 d9 e0 e1 e2 e3 e4 e5 e6 e7 e8 e9 hQ hbel ⊢
      go_wp2_with fail
      go_ret
      exact ⟨rfl, hbel.out⟩
end Go.Proofs.YtjhkgoppopfoaaaDoor
