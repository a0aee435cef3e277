/-
  The chapter's examples for settings ('works') answer true, and turn nothing that was there.
-/
import Derived.Test.YtjhkgoppopfoaaaDoorParse
import Derived.Test.YtjhkgoppopfoaaaDoorText
import Derived.Test.YtjhkgoppopfoaaaDoorConfp
namespace Go.Proofs.YtjhkgoppopfoaaaDoor
open Go.RowKit Go.Lib
set_option linter.unusedVariables false
set_option linter.unusedSimpArgs false
theorem parse_eq (s : ByteArray) (c : Cf) (l : Nat) (er : Int) (w : World) (g : Gd w) (h : parseC s.data.toList = (c, l, er)) : Calls Tryd.prog 22 #[.string s] w fun e w' => e = .returned (.tuple #[c.val, .int .i64 (l : Int), .int .i64 er]) ∧ Below w.heap.size w w' := by
  have := parse_any s w g
  unfold PaEnd at this
  rw [h] at this
  exact this
theorem prefix_dflt (w : World) (s p : ByteArray) (h : hasPrefix s.data.toList p.data.toList = true) : Calls Tryd.prog 43 #[.string s, .string p] w fun e w' => e = .returned (.bool true) ∧ w = w' :=
  (Tryd.strings_HasPrefix s p w).mono fun e w' ⟨a, b⟩ => ⟨by rw [a, h], b.symm⟩
set_option maxRecDepth 100000 in
set_option maxHeartbeats 4000000 in
theorem works20_any (w : World) (g : Gd w) : Calls Tryd.prog 18 #[] w fun e w' => e = .returned (.bool true) ∧ Below w.heap.size w w' := by
  go_enter Tryd.func18, Tryd.ntmps18
  go_wp2_with fail
  refine (default_any true _).mono ?_; rintro e w1 ⟨rfl, bel1⟩
  have g1 := g.keep bel1
  go_wp2_with fail
  refine (text_yes (Cf.dflt true) _ g1 (dflt_ok true)).mono ?_; rintro e w2 ⟨rfl, hb2⟩
  have bel2 := below_after bel1 hb2
  have g2 := g1.keep hb2
  clear bel1 g1 hb2
  have HT := hide text_dflt
  obtain ⟨T, hT⟩ : ∃ T, textC (Cf.dflt true) = T := ⟨_, rfl⟩
  rw [hT] at HT ⊢
  clear hT
  go_wp2_with fail
  refine (parse_eq _ _ _ _ _ g2 parse_room4).mono ?_; rintro e w3 ⟨rfl, hb3⟩
  have bel3 := below_after bel2 hb3
  have g3 := g2.keep hb3
  clear bel2 g2 hb3
  simp only [Cf.val, Cf.cells, Cf.dflt]
  go_wp2_with fail
  have hc := (IsCf.of_block (w := w3.alloc (.cells ({ Cf.dflt false with ro := 4 } : Cf).cells 24)) (heap_at _ rfl) : IsCf _ w3.heap.size _)
  have hb4 := below_alloc1 w3 (.cells ({ Cf.dflt false with ro := 4 } : Cf).cells 24)
  simp only [Cf.cells, Cf.dflt] at hc hb4
  refine (parse_eq _ _ _ _ _ (g3.box _) parse_room04).mono ?_; rintro e w4 ⟨rfl, hb5⟩
  have hc4 := hc.keep hb5
  have bel4 := below_after (below_after bel3 hb4) hb5
  have g4 := (g3.box _).keep hb5
  obtain ⟨b, hb⟩ : ∃ b, b = w3.heap.size := ⟨_, rfl⟩
  rw [← hb] at hc4 ⊢
  clear hb hc hb4 hb5 bel3 g3
  simp only [Cf.val, Cf.cells, Cf.zero]
  go_wp2_with fail
  have hb6 := below_alloc1 w4 (.cells Cf.zero.cells 24)
  simp only [Cf.cells, Cf.zero] at hb6
  refine (parse_eq _ _ _ _ _ (g4.box _) parse_room1).mono ?_; rintro e w5 ⟨rfl, hb7⟩
  have hc5 := (hc4.keep hb6).keep hb7
  have bel5 := below_after (below_after bel4 hb6) hb7
  have g5 := (g4.box _).keep hb7
  clear hc4 bel4 g4 hb6 hb7
  simp only [Cf.val, Cf.cells, Cf.zero]
  go_wp2_with fail
  have hb6 := below_alloc1 w5 (.cells Cf.zero.cells 24)
  simp only [Cf.cells, Cf.zero] at hb6
  refine (parse_eq _ _ _ _ _ (g5.box _) parse_twice).mono ?_; rintro e w6 ⟨rfl, hb7⟩
  have hc6 := (hc5.keep hb6).keep hb7
  have bel6 := below_after (below_after bel5 hb6) hb7
  clear hc5 bel5 g5 hb6 hb7
  simp only [Cf.val, Cf.cells, Cf.zero]
  have hb6 := below_alloc1 w6 (.cells Cf.zero.cells 24)
  have hc7 := hc6.keep hb6
  have bel7 := below_after bel6 hb6
  simp only [Cf.cells, Cf.zero] at hc7 bel7
  clear hc6 bel6 hb6
  have e4 := hc7.h4
  have e8 := hc7.h8
  simp only at e4 e8
  go_wp2_with fail
  refine (prefix_dflt _ _ _ HT.out).mono ?_; rintro e w7 ⟨rfl, rfl⟩
  go_wp2_with fail
  go_ret
  exact ⟨rfl, bel7⟩
end Go.Proofs.YtjhkgoppopfoaaaDoor
