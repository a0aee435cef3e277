/-
  The walk of ConfFew.
-/
import Derived.Test.YtjhkgoppopfoaaaDoorBack
import Derived.Test.YtjhkgoppopfoaaaDoorFewp
namespace Go.Proofs.YtjhkgoppopfoaaaDoor
open Go.RowKit Go.Lib
set_option linter.unusedVariables false
set_option linter.unusedSimpArgs false

def bitK (v : Int) (k : Nat) : Bool := Go.bits BinOp.and IntKind.i64 (v / 2 ^ k) 1 == 1
theorem size_of {x : ByteArray} {l : Bs} (h : x.data.toList = l) : x.size = l.length := by
  rw [← h]; cases x; simp [ByteArray.size]
theorem few_yes {c : Cf} {f : Nat → Bool} {k : Nat} {x : ByteArray} (hf : f k = true) (hx : x.data.toList = rowT c k) : (((⟨(fewT c f k).toArray⟩ : ByteArray) ++ x) ++ ⟨#[10]⟩) = ⟨(fewT c f (k + 1)).toArray⟩ := by
  rw [fewT_succ, if_pos hf, ← hx]
  apply ByteArray.ext
  simp
theorem few_no {c : Cf} {f : Nat → Bool} {k : Nat} (hf : f k = false) : fewT c f k = fewT c f (k + 1) := by
  rw [fewT_succ, if_neg (by simp [hf])]; simp
theorem fewU_add {c d : Cf} {f : Nat → Bool} {k : Nat} {x : ByteArray} (hx : x.data.toList = mixR c d f k) : (((⟨(fewU c d f k).toArray⟩ : ByteArray) ++ x) ++ ⟨#[10]⟩) = ⟨(fewU c d f (k + 1)).toArray⟩ := by
  rw [fewU_succ, ← hx]
  apply ByteArray.ext
  simp
structure FwAt (w wr : World) (b A D : Nat) (c : Cf) (ls ds : List ByteArray) : Prop where
  one : BkAt w wr b A c ls
  two : wr.heap[D]? = some (.cells (ds.map Value.string).toArray 9 (0, 0))
  tex : ds.map (·.data.toList) = (List.range 10).map (rowT (Cf.dflt false)) ++ [[]]
theorem FwAt.keep {w wr w' : World} {b A D : Nat} {c : Cf} {ls ds : List ByteArray} (h : FwAt w wr b A D c ls ds) (hb : Below wr.heap.size wr w') : FwAt w w' b A D c ls ds :=
  ⟨h.one.keep hb, keep_heap hb h.two, h.tex⟩
def FwRel (w : World) (b A D : Nat) (c : Cf) (ls ds : List ByteArray) (f : Nat → Bool) (i t u : Value) (wr : World) : Prop :=
  ∃ k : Nat, i = .int .i64 (k : Int) ∧ k ≤ 10 ∧ t = .string ⟨(fewT c f k).toArray⟩ ∧ u = .string ⟨(fewU c (Cf.dflt false) f k).toArray⟩ ∧ FwAt w wr b A D c ls ds
set_option maxRecDepth 100000 in
set_option maxHeartbeats 4000000 in
theorem confFew_any (l : L9) (sv : Bool) (bits : Int) (w : World) (g : Gd w) (hl : l.wf) (hbits : IsI bits) : Calls Tryd.prog 13 #[l.val, .bool sv, .int .i64 bits] w fun e w' => e = .returned (.bool true) ∧ Below w.heap.size w w' := by
  have hmade := made_any l sv
  have hok := mk_ok l sv
  generalize mk l sv = c at hmade hok
  have HM := hide hmade
  clear hmade
  obtain ⟨a0, a1, a2, a3, a4, a5, a6, a7, a8⟩ := l
  simp only [L9.val] at HM ⊢
  have hdok := dfl_ok
  go_enter Tryd.func13, Tryd.ntmps13
  go_wp2_with fail
  have hb0 := below_alloc1 w (.cells #[.int .i64 a0, .int .i64 a1, .int .i64 a2, .int .i64 a3, .int .i64 a4, .int .i64 a5, .int .i64 a6, .int .i64 a7, .int .i64 a8] 22)
  refine (HM.out _ hl).mono ?_; rintro e w2 ⟨rfl, hb2⟩
  have bel2 := below_after hb0 hb2
  have g2 := g.keep bel2
  have hc := (IsCf.of_block (w := w2.alloc (.cells c.cells 24)) (heap_at _ rfl) : IsCf _ w2.heap.size c)
  have hA : CfIn w (w2.alloc (.cells c.cells 24)) w2.heap.size c := ⟨hc, bel2.size, g2.keep (below_alloc1 _ _), below_after bel2 (below_alloc1 _ _)⟩
  obtain ⟨W, hW⟩ : ∃ W, W = w2.alloc (.cells c.cells 24) := ⟨_, rfl⟩
  obtain ⟨b, hb⟩ : ∃ b, b = w2.heap.size := ⟨_, rfl⟩
  rw [← hW] at hA hc
  rw [← hb] at hA hc
  simp only [Cf.val, Cf.cells] at hW ⊢
  clear bel2 g2 hb2 hb0
  go_wp2_with fail
  rw [← hW, ← hb]
  clear hW hb
  refine (text_yes c _ hA.2.2.1 hok).mono ?_; rintro e w3 ⟨rfl, hb3⟩
  have hA3 := hA.keep hb3
  clear hA hb3 hc
  go_wp2_with fail
  refine (default_any false _).mono ?_; rintro e w4 ⟨rfl, hb4⟩
  have hA4 := hA3.keep hb4
  clear hA3 hb4
  go_wp2_with fail
  refine (text_yes (Cf.dflt false) _ hA4.2.2.1 hdok).mono ?_; rintro e w5 ⟨rfl, hb5⟩
  have hA5 := hA4.keep hb5
  clear hA4 hb5
  go_wp2_with fail
  have hz : ∀ c : Cf, c.ok → (⟨(textC c).toArray⟩ : ByteArray).size < 4294967281 := fun c hc => by
    have := textC_len hc
    simp [ByteArray.size]; omega
  refine (split_any ⟨(textC c).toArray⟩ _ 11 _ hA5.2.2.1 (hz c hok) (textC_spl hok) (by simp)).mono ?_
  rintro e w6 ⟨A, rfl, hb6, ls, hls, hA⟩
  have hA6 : BkAt w w6 b A c ls := ⟨hA5.keep hb6, hA, hls⟩
  clear hA5 hb6 hA
  go_wp2_with fail
  refine (split_any ⟨(textC (Cf.dflt false)).toArray⟩ _ 11 _ hA6.1.2.2.1 (hz _ hdok) (textC_spl hdok) (by simp)).mono ?_
  rintro e w7 ⟨D, rfl, hb7, ds, hds, hD⟩
  have hA7 : FwAt w w7 b A D c ls ds := ⟨hA6.keep hb7, hD, hds⟩
  clear hA6 hb7 hD hz
  obtain ⟨v, hv, hv0, hv1⟩ : ∃ v : Int, brI bits 1024 = v ∧ 0 ≤ v ∧ v < 1024 := ⟨_, rfl, (brI_in bits 1024 (by decide)).1, (brI_in bits 1024 (by decide)).2⟩
  have HV := hide hv
  clear hv
  go_wp2_with fail
  go_loopw [16, 14, 15] (FwRel w b A D c ls ds (bitK v)) (fun i _ _ _ => (10 - intOf i).toNat)
  case atStart => exact ⟨0, rfl, by omega, by simp [fewT], by simp [fewU], hA7⟩
  case round =>
    clear hA7
    obtain ⟨k, rfl, hk, rfl, rfl, hA⟩ := hrel
    have hl1 := fewT_len hok (bitK v) k hk
    have hl2 := fewU_len hok hdok (bitK v) k hk
    by_cases h10 : k < 10
    · have hkl : (k : Int) < 10 := by omega
      have hk0 : (0 : Int) ≤ (k : Int) := by omega
      have hk11 : (k : Int) < 11 := by omega
      obtain ⟨x, hx, hxd⟩ := line_at hA.one.2.2 h10
      have hcell := cells_at hA.one.2.1 hx
      obtain ⟨y, hy, hyd⟩ := line_at hA.tex h10
      have hcell2 := cells_at hA.two hy
      have hxs := size_of hxd
      have hys := size_of hyd
      have hx25 := rowT_len hok h10
      have hy25 := rowT_len hdok h10
      have q1 : ¬ 9223372036854775807 < (fewT c (bitK v) k).length + x.size := by omega
      have q2 : ¬ 9223372036854775807 < (fewT c (bitK v) k).length + x.size + 1 := by omega
      have q3 : ¬ 9223372036854775807 < (fewU c (Cf.dflt false) (bitK v) k).length + x.size := by omega
      have q4 : ¬ 9223372036854775807 < (fewU c (Cf.dflt false) (bitK v) k).length + x.size + 1 := by omega
      have q5 : ¬ 9223372036854775807 < (fewU c (Cf.dflt false) (bitK v) k).length + y.size := by omega
      have q6 : ¬ 9223372036854775807 < (fewU c (Cf.dflt false) (bitK v) k).length + y.size + 1 := by omega
      cases hbk : bitK v k with
      | true =>
        have hbb : (Go.bits BinOp.and IntKind.i64 (v / 2 ^ k) 1 == 1) = true := hbk
        have HB := hide hbk
        clear hbk
        go_wp2_with fail
        refine (bring_eq bits 1024 v _ hbits.1 hbits.2 (by decide) (by decide) HV.out).mono ?_; rintro e w' ⟨rfl, rfl⟩
        go_wp2_with fail
        go_roundw
        case rel => exact ⟨k + 1, by go_num, by omega, by rw [few_yes HB.out hxd], by rw [fewU_add (by unfold mixR; rw [if_pos HB.out]; exact hxd)], hA⟩
        case measure => simp [intOf]; omega
      | false =>
        have hbb : (Go.bits BinOp.and IntKind.i64 (v / 2 ^ k) 1 == 1) = false := hbk
        have HB := hide hbk
        clear hbk
        go_wp2_with fail
        refine (bring_eq bits 1024 v _ hbits.1 hbits.2 (by decide) (by decide) HV.out).mono ?_; rintro e w' ⟨rfl, rfl⟩
        go_wp2_with fail
        go_roundw
        case rel => exact ⟨k + 1, by go_num, by omega, by rw [few_no HB.out], by rw [fewU_add (by unfold mixR; rw [if_neg (by rw [HB.out]; decide)]; exact hyd)], hA⟩
        case measure => simp [intOf]; omega
    · obtain rfl : k = 10 := by omega
      obtain ⟨r, er, hp1, hp2, her⟩ := parse_few hok (bitK v)
      go_wp2_with fail
      refine (parse_eq _ r 0 er _ hA.one.1.2.2.1 hp1).mono ?_; rintro e w8 ⟨rfl, hb8⟩
      have hA8 := (hA.keep hb8).one.1
      have hA9 := hA8.keep (below_alloc1 _ (.cells r.cells 24))
      have hc := (IsCf.of_block (w := w8.alloc (.cells r.cells 24)) (heap_at _ rfl) : IsCf _ w8.heap.size r)
      obtain ⟨W, hW⟩ : ∃ W, W = w8.alloc (.cells r.cells 24) := ⟨_, rfl⟩
      obtain ⟨b2, hb2⟩ : ∃ b, b = w8.heap.size := ⟨_, rfl⟩
      rw [← hW] at hA9 hc
      rw [← hb2] at hc
      simp only [Cf.val, Cf.cells] at hW ⊢
      clear hA hA8 hb8 hl1 hl2
      go_wp2_with fail
      rw [← hW, ← hb2]
      clear hW hb2
      refine (parse_eq _ r 0 er _ hA9.2.2.1 hp2).mono ?_; rintro e w9 ⟨rfl, hb9⟩
      have hA10 := (hA9.keep hb9).keep (below_alloc1 _ (.cells r.cells 24))
      have hc8 := (hc.keep hb9).keep (below_alloc1 _ (.cells r.cells 24))
      have hd := (IsCf.of_block (w := w9.alloc (.cells r.cells 24)) (heap_at _ rfl) : IsCf _ w9.heap.size r)
      have hQ := eq_same r
      clear hA9 hc hb9 hp1 hp2
      have hbel := hide hA10.2.2.2
      have hG := hA10.2.2.1
      obtain ⟨d0, d1, d2, d3, d4, d5, d6, d7, d8, d9⟩ := hc8
      obtain ⟨e0, e1, e2, e3, e4, e5, e6, e7, e8, e9⟩ := hd
      simp only [Cf.val, Cf.cells] at d0 d1 d2 d3 d4 d5 d6 d7 d8 d9 e0 e1 e2 e3 e4 e5 e6 e7 e8 e9 hQ hbel hG ⊢
      rcases her with rfl | rfl
      · go_wp2_with fail
        refine (works20_any _ hG).mono ?_; rintro e w10 ⟨rfl, hb10⟩
        go_wp2_with fail
        go_ret
        exact ⟨rfl, below_after hbel.out hb10⟩
      · go_wp2_with fail
        refine (works20_any _ hG).mono ?_; rintro e w10 ⟨rfl, hb10⟩
        go_wp2_with fail
        go_ret
        exact ⟨rfl, below_after hbel.out hb10⟩
end Go.Proofs.YtjhkgoppopfoaaaDoor
