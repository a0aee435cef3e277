/-
  The walk of ProbeBound: it answers true whatever the rows, and turns nothing that was there.
-/
import Derived.Test.YtfebopgljcagnaaAlone
import Derived.Test.YtfebopgljcagnaaFirst
import Derived.Test.YtfebopgljcagnaaSlice
import Derived.Deep.DeepCutAuto
namespace Go.Proofs.Ytfebopgljcagnaa
open Go.RowKit Go.Sort
set_option linter.unusedVariables false
set_option linter.unusedSimpArgs false

theorem Is3.storeAt {w : World} {b : Nat} {x y z p : Int} (h : Is3 w b x y z) (p0 : 0 ≤ p) (p1 : p < 3) (v : Int) : Is3 (w.setCell ⟨b, p.toNat, none⟩ (.int .i64 v)) b (setA x p v) (setB y p v) (setC z p v) := by
  obtain ⟨h0, h1, h2⟩ := h
  obtain rfl | rfl | rfl : p = 0 ∨ p = 1 ∨ p = 2 := by omega
  all_goals
    refine ⟨?_, ?_, ?_⟩ <;> simp [go_sem, h0, h1, h2, setA, setB, setC]
theorem cell_other {w : World} {b o : Nat} {a : Addr} {u v : Value} (h : w.cell? ⟨b, o, none⟩ = some v) (ha : a.block ≠ b) : (w.setCell a u).cell? ⟨b, o, none⟩ = some v := by
  rw [World.cell?_of_block (w := w) (Below.heap_setCell w a u b (fun e => ha e.symm))]; exact h
theorem Is3.other {w : World} {b : Nat} {x y z : Int} (h : Is3 w b x y z) {a : Addr} (ha : a.block ≠ b) (u : Value) : Is3 (w.setCell a u) b x y z :=
  ⟨cell_other h.1 ha, cell_other h.2.1 ha, cell_other h.2.2 ha⟩
theorem Free3.any {w : World} {b : Nat} (h : Free3 w b) (a : Addr) (u : Value) : Free3 (w.setCell a u) b := by
  obtain ⟨h0, h1, h2⟩ := h
  refine ⟨?_, ?_, ?_⟩ <;> simp [go_sem, h0, h1, h2]
theorem Free3.at {w : World} {b : Nat} {p : Int} (h : Free3 w b) (p0 : 0 ≤ p) (p1 : p < 3) : w.frozen? ⟨b, p.toNat, none⟩ = false := by
  obtain ⟨h0, h1, h2⟩ := h
  obtain rfl | rfl | rfl : p = 0 ∨ p = 1 ∨ p = 2 := by omega
  · exact h0
  · exact h1
  · exact h2

def BRel (w : World) (L F : Nat) (len : Nat) (i : Value) (wr : World) : Prop :=
  ∃ k x y c, i = .int .i64 ((k : Nat) : Int) ∧ k ≤ len ∧ k ≤ 80 ∧ ok3 x y c ∧ Is3 wr L x y c ∧ Free3 wr L ∧ Is3 wr F x y c ∧ Free3 wr F ∧ Below w.heap.size w wr

/-- Behind the row's deed: the new block holds its answer; what was there has not turned. -/
def BCut (W1 : World) (P0 P1 P2 E : Int) (v8 v9 : Value) (wc : World) : Prop :=
  ∃ B, v8 = .pointer (some ⟨B, 0, none⟩) ∧ v9 = .int .i64 E ∧ Is3 wc B P0 P1 P2 ∧ W1.heap.size ≤ B ∧ Below W1.heap.size W1 wc

set_option maxRecDepth 100000 in
set_option maxHeartbeats 4000000 in
theorem bound_any (a : Option Addr) (len cap : Nat) (z : Nat → Nat → Int) (w : World) (hz0 : IsRows w a len 2 z) :
    Calls Try.prog 4 #[.slice a len cap] w fun e w' => e = .returned (.bool true) ∧ Below w.heap.size w w' := by
  have qn := run_neqA 23 Try.underlying23
  have hlen := hz0.1
  unfold maxLen at hlen
  go_enter Try.func4, Try.ntmps4
  go_wp2_with fail
  refine (works_any _).mono ?_; rintro e w1 ⟨rfl, hb⟩
  have bel := hb
  clear hb
  go_wp2_with fail
  have kL := (Is3.made w1 0 0 0 23).alloc (Obj.cells #[.int .i64 0, .int .i64 0, .int .i64 0] 22)
  have fL := (Free3.made w1 0 0 0 23).alloc (Obj.cells #[.int .i64 0, .int .i64 0, .int .i64 0] 22) (by simp)
  have kF := Is3.made (w1.alloc (Obj.cells #[.int .i64 0, .int .i64 0, .int .i64 0] 23)) 0 0 0 22
  have fF := Free3.made (w1.alloc (Obj.cells #[.int .i64 0, .int .i64 0, .int .i64 0] 23)) 0 0 0 22
  have belA : Below w1.heap.size w1 ((w1.alloc (Obj.cells #[.int .i64 0, .int .i64 0, .int .i64 0] 23)).alloc (Obj.cells #[.int .i64 0, .int .i64 0, .int .i64 0] 22)) := by go_grown
  have hL : w.heap.size ≤ w1.heap.size := bel.size
  replace bel := below_after bel belA
  simp only [World.size_alloc] at kF fF
  clear belA
  obtain ⟨W, hW⟩ : ∃ W, W = ((w1.alloc (Obj.cells #[.int .i64 0, .int .i64 0, .int .i64 0] 23)).alloc (Obj.cells #[.int .i64 0, .int .i64 0, .int .i64 0] 22)) := ⟨_, rfl⟩
  simp only [← hW] at kL fL kF fF bel ⊢
  clear hW
  obtain ⟨L, hL'⟩ : ∃ L, L = w1.heap.size := ⟨_, rfl⟩
  rw [← hL'] at kL fL kF fF hL ⊢
  obtain ⟨F, hF'⟩ : ∃ F, F = L + 1 := ⟨_, rfl⟩
  rw [← hF'] at kF fF ⊢
  have hne : L ≠ F := by omega
  have hFw : w.heap.size ≤ F := by omega
  clear hL' hF'
  go_loopw [5] (BRel w L F len) (fun i _ => (len - (intOf i).toNat))
  case atStart => exact ⟨0, 0, 0, 0, rfl, by omega, by omega, by decide, kL, fL, kF, fF, bel⟩
  case round =>
    clear kL fL kF fF bel
    obtain ⟨k, x, y, c, rfl, hk, hk80, hok, kL, fL, kF, fF, bel⟩ := hrel
    have hz := hz0.keep bel
    by_cases hlt : k < len ∧ k < 80
    · obtain ⟨hlt, hlt80⟩ := hlt
      obtain ⟨b, off, ha, hcell⟩ : ∃ b off, a = some ⟨b, off, none⟩ ∧ ∀ i, i < len → ∀ j, j < 2 → wr.cell? ⟨b, off + (i * 2 + j), none⟩ = some (.int .i64 (z i j)) ∧ -9223372036854775808 ≤ z i j ∧ z i j ≤ 9223372036854775807 := by
        rcases hz.2 with h0 | h
        · omega
        · exact h
      obtain ⟨hc0, lo0, hi0⟩ := hcell k hlt 0 (by omega)
      obtain ⟨hc1, lo1, hi1⟩ := hcell k hlt 1 (by omega)
      clear hcell
      generalize z k 0 = t at *
      generalize z k 1 = s at *
      subst ha
      go_wp2_with fail
      have q0 := cell_regrown hc0
      have q1 := cell_regrown hc1
      rw [show off + (k * 2 + 0) = off + k * 2 from rfl] at q0
      rw [show off + (k * 2 + 1) = off + k * 2 + 1 from by omega] at q1
      refine wp_region_quiet_below (by kernel_rfl) (by kernel_rfl) ?_
      repeat (first | go_big_quiet_step ((go_at_call 23; exact Calls.regrown_of (bring_b _ _ _ (by assumption) (by assumption) (by omega) (by omega)))))
      refine wpQuiet_nil ?_
      intro W1 hw2
      obtain ⟨⟨dq, osq⟩, hw3⟩ := hw2
      have hbq : Below wr.heap.size wr W1 := by rw [hw3]; exact below_regrown wr dq osq
      clear hw3 q0 q1
      replace bel := below_after bel hbq
      replace fL := fL.keep hbq kL.lt
      replace fF := fF.keep hbq kF.lt
      replace kL := kL.keep hbq
      replace kF := kF.keep hbq
      clear hz
      replace hc0 := keep_cell hbq hc0
      replace hc1 := keep_cell hbq hc1
      clear hbq
      rw [show off + (k * 2 + 0) = off + k * 2 from rfl] at hc0
      rw [show off + (k * 2 + 1) = off + k * 2 + 1 from by omega] at hc1
      obtain ⟨p, hp⟩ : ∃ p, s % 3 = p := ⟨_, rfl⟩
      obtain ⟨d, hd⟩ : ∃ d, t % 4 = d := ⟨_, rfl⟩
      have p0 : 0 ≤ p := by omega
      have p1 : p < 3 := by omega
      have d0 : 0 ≤ d := by omega
      have d1 : d < 4 := by omega
      rw [hp, hd]
      have HP := hide hp
      have HD := hide hd
      clear hp hd
      obtain ⟨P0, P1, P2, E, D⟩ := deeds_ex x y c p d
      have cD := hide (fun W' => deed_of D t s W' hok lo0 hi0 lo1 hi1 HP.out HD.out)
      have kLa := kL.1; have kLb := kL.2.1; have kLc := kL.2.2; have kLl := kL.lt
      have hbl : b < W1.heap.size := block_lt_of_cell hc0
      go_wp2_with fail
      go_cut [8, 9] (BCut W1 P0 P1 P2 E)
      case first =>
        go_region_with (go_at_call 24; refine (cD.out _).mono ?_; rintro e w3 ⟨rfl, hb⟩; obtain ⟨hc, hf⟩ := bcell hb; have hB : Below W1.heap.size W1 w3 := (below_after (by go_grown) hb); first | (have hz : W1.heap.size < w3.heap.size := (by have := hb.size; simp at this; omega)) | skip)
        all_goals
          go_wp2
          go_meet
          case rel =>
            refine ⟨_, rfl, rfl, ⟨?_, ?_, ?_⟩, ?_, ?_⟩
            · first | simp [go_sem, hc, hz] | simp [go_sem, hc] | simp [go_sem]
            · first | simp [go_sem, hc, hz] | simp [go_sem, hc] | simp [go_sem]
            · first | simp [go_sem, hc, hz] | simp [go_sem, hc] | simp [go_sem]
            · first | exact Nat.le_refl _ | exact hB.size
            · go_grown
              all_goals exact hB.size
      case rest =>
        obtain ⟨B, rfl, rfl, k8, hB1, hb⟩ := hcut
        have hFB : F ≠ B := by have := kF.lt; omega
        have hLB : L ≠ B := by have := kL.lt; omega
        clear kLa kLb kLc kLl hbl hc0 hc1 cD
        replace bel := below_after bel hb
        replace fL := fL.keep hb kL.lt
        replace fF := fF.keep hb kF.lt
        replace kL := kL.keep hb
        replace kF := kF.keep hb
        clear hb hB1
        have gin := get_in (s := p) hok
        have gi := kF.at p0 p1
        have fi := fF.at p0 p1
        obtain ⟨g, hg⟩ : ∃ g, getS x y c p = g := ⟨_, rfl⟩
        have HG := hide hg
        rw [hg] at gin gi
        have hD := D.cases
        rw [hg] at hD
        clear hg HP HD D
        rcases hD with ⟨rfl, hbad, rfl, rfl, rfl⟩ | ⟨rfl, hbad, rfl, rfl, rfl⟩
        · obtain hd | hd | hd | hd : d = 0 ∨ d = 1 ∨ d = 2 ∨ d = 3 := by omega
          · subst hd
            rw [show nv 0 g = max g 1 from rfl] at k8
            have hlt : (g < 1 ∧ max g 1 = 1) ∨ (¬ g < 1 ∧ max g 1 = g) := by omega
            rcases hlt with ⟨hlt, hm⟩ | ⟨hlt, hm⟩
            · rw [hm] at k8
              clear hm hbad
              go_upto_region 18 with (fail)
              have okv : ok3 (setA x p 1) (setB y p 1) (setC c p 1) := ok_set p hok (by omega) (by omega)
              obtain ⟨W2, hW2⟩ : ∃ W', W' = wc.setCell ⟨F, p.toNat, none⟩ (.int .i64 1) := ⟨_, rfl⟩
              simp only [← hW2]
              have kF2 := kF.storeAt p0 p1 1
              have kL2 := kL.other (a := ⟨F, p.toNat, none⟩) (fun e => hne e.symm) (.int .i64 1)
              have k82 := k8.other (a := ⟨F, p.toNat, none⟩) hFB (.int .i64 1)
              have fF2 := fF.any ⟨F, p.toNat, none⟩ (.int .i64 1)
              have fL2 := fL.any ⟨F, p.toNat, none⟩ (.int .i64 1)
              have bel2 := bel.setCell (p := ⟨F, p.toNat, none⟩) hFw (.int .i64 1)
              rw [← hW2] at kF2 kL2 k82 fF2 fL2 bel2
              clear hW2 kF kL k8 fF fL bel gi fi
              have gi := kF2.at p0 p1
              rw [get_set x y c p 1 p0 p1] at gi
              have a1 := kF2.1; have a2 := kF2.2.1; have a3 := kF2.2.2
              have b1 := k82.1; have b2 := k82.2.1; have b3 := k82.2.2
              have c1 := kL2.1; have c2 := kL2.2.1; have c3 := kL2.2.2
              obtain ⟨d1, d2, d3⟩ := fL2
              go_upto_region 21 with (fail)
              clear gi a1 a2 a3 b1 b2 b3 c1 c2 c3
              obtain ⟨W3, hW3⟩ : ∃ W', W' = ((W2.setCell ⟨L, 0, none⟩ (.int .i64 (setA x p 1))).setCell ⟨L, 1, none⟩ (.int .i64 (setB y p 1))).setCell ⟨L, 2, none⟩ (.int .i64 (setC c p 1)) := ⟨_, rfl⟩
              simp only [← hW3]
              have kL3 := Is3.stored W2 L (setA x p 1) (setB y p 1) (setC c p 1) kL2
              have fL3 := Free3.stored W2 L (.int .i64 (setA x p 1)) (.int .i64 (setB y p 1)) (.int .i64 (setC c p 1)) ⟨d1, d2, d3⟩
              have kF3 := ((kF2.other (a := ⟨L, 0, none⟩) hne (.int .i64 (setA x p 1))).other (a := ⟨L, 1, none⟩) hne (.int .i64 (setB y p 1))).other (a := ⟨L, 2, none⟩) hne (.int .i64 (setC c p 1))
              have fF3 := ((fF2.any ⟨L, 0, none⟩ (.int .i64 (setA x p 1))).any ⟨L, 1, none⟩ (.int .i64 (setB y p 1))).any ⟨L, 2, none⟩ (.int .i64 (setC c p 1))
              have bel3 := ((bel2.setCell (p := ⟨L, 0, none⟩) hL (.int .i64 (setA x p 1))).setCell (p := ⟨L, 1, none⟩) hL (.int .i64 (setB y p 1))).setCell (p := ⟨L, 2, none⟩) hL (.int .i64 (setC c p 1))
              rw [← hW3] at kL3 fL3 kF3 fF3 bel3
              clear hW3 kL2 kF2 k82 fF2 bel2 d1 d2 d3
              have hall : allV (setA x p 1) (setB y p 1) (setC c p 1) = setA x p 1 + setB y p 1 + setC c p 1 := by unfold allV; rw [if_pos okv]
              have HALL := hide hall
              have hchk : chkV (setA x p 1) (setB y p 1) (setC c p 1) = 0 := by unfold chkV; rw [if_pos okv]
              have HCHK := hide hchk
              clear hall hchk
              have okw := okv
              obtain ⟨o0, o1, o2, o3, o4, o5⟩ := okw
              have v1 : IntKind.i64.wrap (setA x p 1 + setB y p 1) = setA x p 1 + setB y p 1 := IntWalk.i64_in _ (by omega)
              have v2 : IntKind.i64.wrap (setA x p 1 + setB y p 1 + setC c p 1) = setA x p 1 + setB y p 1 + setC c p 1 := IntWalk.i64_in _ (by omega)
              have a1 := cell_regrown kF3.1; have a2 := cell_regrown kF3.2.1; have a3 := cell_regrown kF3.2.2
              have c1 := cell_regrown kL3.1; have c2 := cell_regrown kL3.2.1; have c3 := cell_regrown kL3.2.2
              have cA := hide (fun W' => works_all _ _ _ _ W' HALL.out)
              have cC := hide (fun W' => check_ok _ _ _ W' okv)
              refine wp_region_quiet_below (by kernel_rfl) (by kernel_rfl) ?_
              repeat (go_big_quiet_step ((first | (go_at_call 20; exact Calls.regrown_of (cA.out _)) | (go_at_call 16; exact Calls.regrown_of (cC.out _)))))
              refine wpQuiet_nil ?_
              intro W4 hw2
              obtain ⟨⟨dq, osq⟩, hw3⟩ := hw2
              have hbq : Below W3.heap.size W3 W4 := by rw [hw3]; exact below_regrown W3 dq osq
              clear hw3 a1 a2 a3 c1 c2 c3 cA cC v1 v2
              replace bel3 := below_after bel3 hbq
              replace fL3 := fL3.keep hbq kL3.lt
              replace fF3 := fF3.keep hbq kF3.lt
              replace kL3 := kL3.keep hbq
              replace kF3 := kF3.keep hbq
              clear hbq
              go_wp2
              go_roundw
              case rel => exact ⟨k + 1, _, _, _, by go_num, by omega, by omega, okv, kL3, fL3, kF3, fF3, bel3⟩
              case measure => simp [intOf]; omega
            · rw [hm] at k8
              clear hm hbad
              go_upto_region 18 with (fail)
              have okv : ok3 (setA x p g) (setB y p g) (setC c p g) := ok_set p hok (by omega) (by omega)
              obtain ⟨W2, hW2⟩ : ∃ W', W' = wc.setCell ⟨F, p.toNat, none⟩ (.int .i64 g) := ⟨_, rfl⟩
              simp only [← hW2]
              have kF2 := kF.storeAt p0 p1 g
              have kL2 := kL.other (a := ⟨F, p.toNat, none⟩) (fun e => hne e.symm) (.int .i64 g)
              have k82 := k8.other (a := ⟨F, p.toNat, none⟩) hFB (.int .i64 g)
              have fF2 := fF.any ⟨F, p.toNat, none⟩ (.int .i64 g)
              have fL2 := fL.any ⟨F, p.toNat, none⟩ (.int .i64 g)
              have bel2 := bel.setCell (p := ⟨F, p.toNat, none⟩) hFw (.int .i64 g)
              rw [← hW2] at kF2 kL2 k82 fF2 fL2 bel2
              clear hW2 kF kL k8 fF fL bel gi fi
              have gi := kF2.at p0 p1
              rw [get_set x y c p g p0 p1] at gi
              have a1 := kF2.1; have a2 := kF2.2.1; have a3 := kF2.2.2
              have b1 := k82.1; have b2 := k82.2.1; have b3 := k82.2.2
              have c1 := kL2.1; have c2 := kL2.2.1; have c3 := kL2.2.2
              obtain ⟨d1, d2, d3⟩ := fL2
              go_upto_region 21 with (fail)
              clear gi a1 a2 a3 b1 b2 b3 c1 c2 c3
              obtain ⟨W3, hW3⟩ : ∃ W', W' = ((W2.setCell ⟨L, 0, none⟩ (.int .i64 (setA x p g))).setCell ⟨L, 1, none⟩ (.int .i64 (setB y p g))).setCell ⟨L, 2, none⟩ (.int .i64 (setC c p g)) := ⟨_, rfl⟩
              simp only [← hW3]
              have kL3 := Is3.stored W2 L (setA x p g) (setB y p g) (setC c p g) kL2
              have fL3 := Free3.stored W2 L (.int .i64 (setA x p g)) (.int .i64 (setB y p g)) (.int .i64 (setC c p g)) ⟨d1, d2, d3⟩
              have kF3 := ((kF2.other (a := ⟨L, 0, none⟩) hne (.int .i64 (setA x p g))).other (a := ⟨L, 1, none⟩) hne (.int .i64 (setB y p g))).other (a := ⟨L, 2, none⟩) hne (.int .i64 (setC c p g))
              have fF3 := ((fF2.any ⟨L, 0, none⟩ (.int .i64 (setA x p g))).any ⟨L, 1, none⟩ (.int .i64 (setB y p g))).any ⟨L, 2, none⟩ (.int .i64 (setC c p g))
              have bel3 := ((bel2.setCell (p := ⟨L, 0, none⟩) hL (.int .i64 (setA x p g))).setCell (p := ⟨L, 1, none⟩) hL (.int .i64 (setB y p g))).setCell (p := ⟨L, 2, none⟩) hL (.int .i64 (setC c p g))
              rw [← hW3] at kL3 fL3 kF3 fF3 bel3
              clear hW3 kL2 kF2 k82 fF2 bel2 d1 d2 d3
              have hall : allV (setA x p g) (setB y p g) (setC c p g) = setA x p g + setB y p g + setC c p g := by unfold allV; rw [if_pos okv]
              have HALL := hide hall
              have hchk : chkV (setA x p g) (setB y p g) (setC c p g) = 0 := by unfold chkV; rw [if_pos okv]
              have HCHK := hide hchk
              clear hall hchk
              have okw := okv
              obtain ⟨o0, o1, o2, o3, o4, o5⟩ := okw
              have v1 : IntKind.i64.wrap (setA x p g + setB y p g) = setA x p g + setB y p g := IntWalk.i64_in _ (by omega)
              have v2 : IntKind.i64.wrap (setA x p g + setB y p g + setC c p g) = setA x p g + setB y p g + setC c p g := IntWalk.i64_in _ (by omega)
              have a1 := cell_regrown kF3.1; have a2 := cell_regrown kF3.2.1; have a3 := cell_regrown kF3.2.2
              have c1 := cell_regrown kL3.1; have c2 := cell_regrown kL3.2.1; have c3 := cell_regrown kL3.2.2
              have cA := hide (fun W' => works_all _ _ _ _ W' HALL.out)
              have cC := hide (fun W' => check_ok _ _ _ W' okv)
              refine wp_region_quiet_below (by kernel_rfl) (by kernel_rfl) ?_
              repeat (go_big_quiet_step ((first | (go_at_call 20; exact Calls.regrown_of (cA.out _)) | (go_at_call 16; exact Calls.regrown_of (cC.out _)))))
              refine wpQuiet_nil ?_
              intro W4 hw2
              obtain ⟨⟨dq, osq⟩, hw3⟩ := hw2
              have hbq : Below W3.heap.size W3 W4 := by rw [hw3]; exact below_regrown W3 dq osq
              clear hw3 a1 a2 a3 c1 c2 c3 cA cC v1 v2
              replace bel3 := below_after bel3 hbq
              replace fL3 := fL3.keep hbq kL3.lt
              replace fF3 := fF3.keep hbq kF3.lt
              replace kL3 := kL3.keep hbq
              replace kF3 := kF3.keep hbq
              clear hbq
              go_wp2
              go_roundw
              case rel => exact ⟨k + 1, _, _, _, by go_num, by omega, by omega, okv, kL3, fL3, kF3, fF3, bel3⟩
              case measure => simp [intOf]; omega
          · subst hd
            rw [show nv 1 g = max g 2 from rfl] at k8
            have hlt : (g < 2 ∧ max g 2 = 2) ∨ (¬ g < 2 ∧ max g 2 = g) := by omega
            rcases hlt with ⟨hlt, hm⟩ | ⟨hlt, hm⟩
            · rw [hm] at k8
              clear hm hbad
              go_upto_region 18 with (fail)
              have okv : ok3 (setA x p 2) (setB y p 2) (setC c p 2) := ok_set p hok (by omega) (by omega)
              obtain ⟨W2, hW2⟩ : ∃ W', W' = wc.setCell ⟨F, p.toNat, none⟩ (.int .i64 2) := ⟨_, rfl⟩
              simp only [← hW2]
              have kF2 := kF.storeAt p0 p1 2
              have kL2 := kL.other (a := ⟨F, p.toNat, none⟩) (fun e => hne e.symm) (.int .i64 2)
              have k82 := k8.other (a := ⟨F, p.toNat, none⟩) hFB (.int .i64 2)
              have fF2 := fF.any ⟨F, p.toNat, none⟩ (.int .i64 2)
              have fL2 := fL.any ⟨F, p.toNat, none⟩ (.int .i64 2)
              have bel2 := bel.setCell (p := ⟨F, p.toNat, none⟩) hFw (.int .i64 2)
              rw [← hW2] at kF2 kL2 k82 fF2 fL2 bel2
              clear hW2 kF kL k8 fF fL bel gi fi
              have gi := kF2.at p0 p1
              rw [get_set x y c p 2 p0 p1] at gi
              have a1 := kF2.1; have a2 := kF2.2.1; have a3 := kF2.2.2
              have b1 := k82.1; have b2 := k82.2.1; have b3 := k82.2.2
              have c1 := kL2.1; have c2 := kL2.2.1; have c3 := kL2.2.2
              obtain ⟨d1, d2, d3⟩ := fL2
              go_upto_region 21 with (fail)
              clear gi a1 a2 a3 b1 b2 b3 c1 c2 c3
              obtain ⟨W3, hW3⟩ : ∃ W', W' = ((W2.setCell ⟨L, 0, none⟩ (.int .i64 (setA x p 2))).setCell ⟨L, 1, none⟩ (.int .i64 (setB y p 2))).setCell ⟨L, 2, none⟩ (.int .i64 (setC c p 2)) := ⟨_, rfl⟩
              simp only [← hW3]
              have kL3 := Is3.stored W2 L (setA x p 2) (setB y p 2) (setC c p 2) kL2
              have fL3 := Free3.stored W2 L (.int .i64 (setA x p 2)) (.int .i64 (setB y p 2)) (.int .i64 (setC c p 2)) ⟨d1, d2, d3⟩
              have kF3 := ((kF2.other (a := ⟨L, 0, none⟩) hne (.int .i64 (setA x p 2))).other (a := ⟨L, 1, none⟩) hne (.int .i64 (setB y p 2))).other (a := ⟨L, 2, none⟩) hne (.int .i64 (setC c p 2))
              have fF3 := ((fF2.any ⟨L, 0, none⟩ (.int .i64 (setA x p 2))).any ⟨L, 1, none⟩ (.int .i64 (setB y p 2))).any ⟨L, 2, none⟩ (.int .i64 (setC c p 2))
              have bel3 := ((bel2.setCell (p := ⟨L, 0, none⟩) hL (.int .i64 (setA x p 2))).setCell (p := ⟨L, 1, none⟩) hL (.int .i64 (setB y p 2))).setCell (p := ⟨L, 2, none⟩) hL (.int .i64 (setC c p 2))
              rw [← hW3] at kL3 fL3 kF3 fF3 bel3
              clear hW3 kL2 kF2 k82 fF2 bel2 d1 d2 d3
              have hall : allV (setA x p 2) (setB y p 2) (setC c p 2) = setA x p 2 + setB y p 2 + setC c p 2 := by unfold allV; rw [if_pos okv]
              have HALL := hide hall
              have hchk : chkV (setA x p 2) (setB y p 2) (setC c p 2) = 0 := by unfold chkV; rw [if_pos okv]
              have HCHK := hide hchk
              clear hall hchk
              have okw := okv
              obtain ⟨o0, o1, o2, o3, o4, o5⟩ := okw
              have v1 : IntKind.i64.wrap (setA x p 2 + setB y p 2) = setA x p 2 + setB y p 2 := IntWalk.i64_in _ (by omega)
              have v2 : IntKind.i64.wrap (setA x p 2 + setB y p 2 + setC c p 2) = setA x p 2 + setB y p 2 + setC c p 2 := IntWalk.i64_in _ (by omega)
              have a1 := cell_regrown kF3.1; have a2 := cell_regrown kF3.2.1; have a3 := cell_regrown kF3.2.2
              have c1 := cell_regrown kL3.1; have c2 := cell_regrown kL3.2.1; have c3 := cell_regrown kL3.2.2
              have cA := hide (fun W' => works_all _ _ _ _ W' HALL.out)
              have cC := hide (fun W' => check_ok _ _ _ W' okv)
              refine wp_region_quiet_below (by kernel_rfl) (by kernel_rfl) ?_
              repeat (go_big_quiet_step ((first | (go_at_call 20; exact Calls.regrown_of (cA.out _)) | (go_at_call 16; exact Calls.regrown_of (cC.out _)))))
              refine wpQuiet_nil ?_
              intro W4 hw2
              obtain ⟨⟨dq, osq⟩, hw3⟩ := hw2
              have hbq : Below W3.heap.size W3 W4 := by rw [hw3]; exact below_regrown W3 dq osq
              clear hw3 a1 a2 a3 c1 c2 c3 cA cC v1 v2
              replace bel3 := below_after bel3 hbq
              replace fL3 := fL3.keep hbq kL3.lt
              replace fF3 := fF3.keep hbq kF3.lt
              replace kL3 := kL3.keep hbq
              replace kF3 := kF3.keep hbq
              clear hbq
              go_wp2
              go_roundw
              case rel => exact ⟨k + 1, _, _, _, by go_num, by omega, by omega, okv, kL3, fL3, kF3, fF3, bel3⟩
              case measure => simp [intOf]; omega
            · rw [hm] at k8
              clear hm hbad
              go_upto_region 18 with (fail)
              have okv : ok3 (setA x p g) (setB y p g) (setC c p g) := ok_set p hok (by omega) (by omega)
              obtain ⟨W2, hW2⟩ : ∃ W', W' = wc.setCell ⟨F, p.toNat, none⟩ (.int .i64 g) := ⟨_, rfl⟩
              simp only [← hW2]
              have kF2 := kF.storeAt p0 p1 g
              have kL2 := kL.other (a := ⟨F, p.toNat, none⟩) (fun e => hne e.symm) (.int .i64 g)
              have k82 := k8.other (a := ⟨F, p.toNat, none⟩) hFB (.int .i64 g)
              have fF2 := fF.any ⟨F, p.toNat, none⟩ (.int .i64 g)
              have fL2 := fL.any ⟨F, p.toNat, none⟩ (.int .i64 g)
              have bel2 := bel.setCell (p := ⟨F, p.toNat, none⟩) hFw (.int .i64 g)
              rw [← hW2] at kF2 kL2 k82 fF2 fL2 bel2
              clear hW2 kF kL k8 fF fL bel gi fi
              have gi := kF2.at p0 p1
              rw [get_set x y c p g p0 p1] at gi
              have a1 := kF2.1; have a2 := kF2.2.1; have a3 := kF2.2.2
              have b1 := k82.1; have b2 := k82.2.1; have b3 := k82.2.2
              have c1 := kL2.1; have c2 := kL2.2.1; have c3 := kL2.2.2
              obtain ⟨d1, d2, d3⟩ := fL2
              go_upto_region 21 with (fail)
              clear gi a1 a2 a3 b1 b2 b3 c1 c2 c3
              obtain ⟨W3, hW3⟩ : ∃ W', W' = ((W2.setCell ⟨L, 0, none⟩ (.int .i64 (setA x p g))).setCell ⟨L, 1, none⟩ (.int .i64 (setB y p g))).setCell ⟨L, 2, none⟩ (.int .i64 (setC c p g)) := ⟨_, rfl⟩
              simp only [← hW3]
              have kL3 := Is3.stored W2 L (setA x p g) (setB y p g) (setC c p g) kL2
              have fL3 := Free3.stored W2 L (.int .i64 (setA x p g)) (.int .i64 (setB y p g)) (.int .i64 (setC c p g)) ⟨d1, d2, d3⟩
              have kF3 := ((kF2.other (a := ⟨L, 0, none⟩) hne (.int .i64 (setA x p g))).other (a := ⟨L, 1, none⟩) hne (.int .i64 (setB y p g))).other (a := ⟨L, 2, none⟩) hne (.int .i64 (setC c p g))
              have fF3 := ((fF2.any ⟨L, 0, none⟩ (.int .i64 (setA x p g))).any ⟨L, 1, none⟩ (.int .i64 (setB y p g))).any ⟨L, 2, none⟩ (.int .i64 (setC c p g))
              have bel3 := ((bel2.setCell (p := ⟨L, 0, none⟩) hL (.int .i64 (setA x p g))).setCell (p := ⟨L, 1, none⟩) hL (.int .i64 (setB y p g))).setCell (p := ⟨L, 2, none⟩) hL (.int .i64 (setC c p g))
              rw [← hW3] at kL3 fL3 kF3 fF3 bel3
              clear hW3 kL2 kF2 k82 fF2 bel2 d1 d2 d3
              have hall : allV (setA x p g) (setB y p g) (setC c p g) = setA x p g + setB y p g + setC c p g := by unfold allV; rw [if_pos okv]
              have HALL := hide hall
              have hchk : chkV (setA x p g) (setB y p g) (setC c p g) = 0 := by unfold chkV; rw [if_pos okv]
              have HCHK := hide hchk
              clear hall hchk
              have okw := okv
              obtain ⟨o0, o1, o2, o3, o4, o5⟩ := okw
              have v1 : IntKind.i64.wrap (setA x p g + setB y p g) = setA x p g + setB y p g := IntWalk.i64_in _ (by omega)
              have v2 : IntKind.i64.wrap (setA x p g + setB y p g + setC c p g) = setA x p g + setB y p g + setC c p g := IntWalk.i64_in _ (by omega)
              have a1 := cell_regrown kF3.1; have a2 := cell_regrown kF3.2.1; have a3 := cell_regrown kF3.2.2
              have c1 := cell_regrown kL3.1; have c2 := cell_regrown kL3.2.1; have c3 := cell_regrown kL3.2.2
              have cA := hide (fun W' => works_all _ _ _ _ W' HALL.out)
              have cC := hide (fun W' => check_ok _ _ _ W' okv)
              refine wp_region_quiet_below (by kernel_rfl) (by kernel_rfl) ?_
              repeat (go_big_quiet_step ((first | (go_at_call 20; exact Calls.regrown_of (cA.out _)) | (go_at_call 16; exact Calls.regrown_of (cC.out _)))))
              refine wpQuiet_nil ?_
              intro W4 hw2
              obtain ⟨⟨dq, osq⟩, hw3⟩ := hw2
              have hbq : Below W3.heap.size W3 W4 := by rw [hw3]; exact below_regrown W3 dq osq
              clear hw3 a1 a2 a3 c1 c2 c3 cA cC v1 v2
              replace bel3 := below_after bel3 hbq
              replace fL3 := fL3.keep hbq kL3.lt
              replace fF3 := fF3.keep hbq kF3.lt
              replace kL3 := kL3.keep hbq
              replace kF3 := kF3.keep hbq
              clear hbq
              go_wp2
              go_roundw
              case rel => exact ⟨k + 1, _, _, _, by go_num, by omega, by omega, okv, kL3, fL3, kF3, fF3, bel3⟩
              case measure => simp [intOf]; omega
          · subst hd
            rw [show nv 2 g = g - 1 from rfl] at k8
            have hg0 : g ≠ 0 := by simpa [bad] using hbad
            have hg1 : (g == 0) = false := beq_eq_false_iff_ne.2 hg0
            clear hbad
            go_upto_region 18 with (fail)
            have okv : ok3 (setA x p (g - 1)) (setB y p (g - 1)) (setC c p (g - 1)) := ok_set p hok (by omega) (by omega)
            obtain ⟨W2, hW2⟩ : ∃ W', W' = wc.setCell ⟨F, p.toNat, none⟩ (.int .i64 (g - 1)) := ⟨_, rfl⟩
            simp only [← hW2]
            have kF2 := kF.storeAt p0 p1 (g - 1)
            have kL2 := kL.other (a := ⟨F, p.toNat, none⟩) (fun e => hne e.symm) (.int .i64 (g - 1))
            have k82 := k8.other (a := ⟨F, p.toNat, none⟩) hFB (.int .i64 (g - 1))
            have fF2 := fF.any ⟨F, p.toNat, none⟩ (.int .i64 (g - 1))
            have fL2 := fL.any ⟨F, p.toNat, none⟩ (.int .i64 (g - 1))
            have bel2 := bel.setCell (p := ⟨F, p.toNat, none⟩) hFw (.int .i64 (g - 1))
            rw [← hW2] at kF2 kL2 k82 fF2 fL2 bel2
            clear hW2 kF kL k8 fF fL bel gi fi
            have gi := kF2.at p0 p1
            rw [get_set x y c p (g - 1) p0 p1] at gi
            have a1 := kF2.1; have a2 := kF2.2.1; have a3 := kF2.2.2
            have b1 := k82.1; have b2 := k82.2.1; have b3 := k82.2.2
            have c1 := kL2.1; have c2 := kL2.2.1; have c3 := kL2.2.2
            obtain ⟨d1, d2, d3⟩ := fL2
            go_upto_region 21 with (fail)
            clear gi a1 a2 a3 b1 b2 b3 c1 c2 c3
            obtain ⟨W3, hW3⟩ : ∃ W', W' = ((W2.setCell ⟨L, 0, none⟩ (.int .i64 (setA x p (g - 1)))).setCell ⟨L, 1, none⟩ (.int .i64 (setB y p (g - 1)))).setCell ⟨L, 2, none⟩ (.int .i64 (setC c p (g - 1))) := ⟨_, rfl⟩
            simp only [← hW3]
            have kL3 := Is3.stored W2 L (setA x p (g - 1)) (setB y p (g - 1)) (setC c p (g - 1)) kL2
            have fL3 := Free3.stored W2 L (.int .i64 (setA x p (g - 1))) (.int .i64 (setB y p (g - 1))) (.int .i64 (setC c p (g - 1))) ⟨d1, d2, d3⟩
            have kF3 := ((kF2.other (a := ⟨L, 0, none⟩) hne (.int .i64 (setA x p (g - 1)))).other (a := ⟨L, 1, none⟩) hne (.int .i64 (setB y p (g - 1)))).other (a := ⟨L, 2, none⟩) hne (.int .i64 (setC c p (g - 1)))
            have fF3 := ((fF2.any ⟨L, 0, none⟩ (.int .i64 (setA x p (g - 1)))).any ⟨L, 1, none⟩ (.int .i64 (setB y p (g - 1)))).any ⟨L, 2, none⟩ (.int .i64 (setC c p (g - 1)))
            have bel3 := ((bel2.setCell (p := ⟨L, 0, none⟩) hL (.int .i64 (setA x p (g - 1)))).setCell (p := ⟨L, 1, none⟩) hL (.int .i64 (setB y p (g - 1)))).setCell (p := ⟨L, 2, none⟩) hL (.int .i64 (setC c p (g - 1)))
            rw [← hW3] at kL3 fL3 kF3 fF3 bel3
            clear hW3 kL2 kF2 k82 fF2 bel2 d1 d2 d3
            have hall : allV (setA x p (g - 1)) (setB y p (g - 1)) (setC c p (g - 1)) = setA x p (g - 1) + setB y p (g - 1) + setC c p (g - 1) := by unfold allV; rw [if_pos okv]
            have HALL := hide hall
            have hchk : chkV (setA x p (g - 1)) (setB y p (g - 1)) (setC c p (g - 1)) = 0 := by unfold chkV; rw [if_pos okv]
            have HCHK := hide hchk
            clear hall hchk
            have okw := okv
            obtain ⟨o0, o1, o2, o3, o4, o5⟩ := okw
            have v1 : IntKind.i64.wrap (setA x p (g - 1) + setB y p (g - 1)) = setA x p (g - 1) + setB y p (g - 1) := IntWalk.i64_in _ (by omega)
            have v2 : IntKind.i64.wrap (setA x p (g - 1) + setB y p (g - 1) + setC c p (g - 1)) = setA x p (g - 1) + setB y p (g - 1) + setC c p (g - 1) := IntWalk.i64_in _ (by omega)
            have a1 := cell_regrown kF3.1; have a2 := cell_regrown kF3.2.1; have a3 := cell_regrown kF3.2.2
            have c1 := cell_regrown kL3.1; have c2 := cell_regrown kL3.2.1; have c3 := cell_regrown kL3.2.2
            have cA := hide (fun W' => works_all _ _ _ _ W' HALL.out)
            have cC := hide (fun W' => check_ok _ _ _ W' okv)
            refine wp_region_quiet_below (by kernel_rfl) (by kernel_rfl) ?_
            repeat (go_big_quiet_step ((first | (go_at_call 20; exact Calls.regrown_of (cA.out _)) | (go_at_call 16; exact Calls.regrown_of (cC.out _)))))
            refine wpQuiet_nil ?_
            intro W4 hw2
            obtain ⟨⟨dq, osq⟩, hw3⟩ := hw2
            have hbq : Below W3.heap.size W3 W4 := by rw [hw3]; exact below_regrown W3 dq osq
            clear hw3 a1 a2 a3 c1 c2 c3 cA cC v1 v2
            replace bel3 := below_after bel3 hbq
            replace fL3 := fL3.keep hbq kL3.lt
            replace fF3 := fF3.keep hbq kF3.lt
            replace kL3 := kL3.keep hbq
            replace kF3 := kF3.keep hbq
            clear hbq
            go_wp2
            go_roundw
            case rel => exact ⟨k + 1, _, _, _, by go_num, by omega, by omega, okv, kL3, fL3, kF3, fF3, bel3⟩
            case measure => simp [intOf]; omega
          · subst hd
            rw [show nv 3 g = 0 from rfl] at k8
            clear hbad
            go_upto_region 18 with (fail)
            have okv : ok3 (setA x p 0) (setB y p 0) (setC c p 0) := ok_set p hok (by omega) (by omega)
            obtain ⟨W2, hW2⟩ : ∃ W', W' = wc.setCell ⟨F, p.toNat, none⟩ (.int .i64 0) := ⟨_, rfl⟩
            simp only [← hW2]
            have kF2 := kF.storeAt p0 p1 0
            have kL2 := kL.other (a := ⟨F, p.toNat, none⟩) (fun e => hne e.symm) (.int .i64 0)
            have k82 := k8.other (a := ⟨F, p.toNat, none⟩) hFB (.int .i64 0)
            have fF2 := fF.any ⟨F, p.toNat, none⟩ (.int .i64 0)
            have fL2 := fL.any ⟨F, p.toNat, none⟩ (.int .i64 0)
            have bel2 := bel.setCell (p := ⟨F, p.toNat, none⟩) hFw (.int .i64 0)
            rw [← hW2] at kF2 kL2 k82 fF2 fL2 bel2
            clear hW2 kF kL k8 fF fL bel gi fi
            have gi := kF2.at p0 p1
            rw [get_set x y c p 0 p0 p1] at gi
            have a1 := kF2.1; have a2 := kF2.2.1; have a3 := kF2.2.2
            have b1 := k82.1; have b2 := k82.2.1; have b3 := k82.2.2
            have c1 := kL2.1; have c2 := kL2.2.1; have c3 := kL2.2.2
            obtain ⟨d1, d2, d3⟩ := fL2
            go_upto_region 21 with (fail)
            clear gi a1 a2 a3 b1 b2 b3 c1 c2 c3
            obtain ⟨W3, hW3⟩ : ∃ W', W' = ((W2.setCell ⟨L, 0, none⟩ (.int .i64 (setA x p 0))).setCell ⟨L, 1, none⟩ (.int .i64 (setB y p 0))).setCell ⟨L, 2, none⟩ (.int .i64 (setC c p 0)) := ⟨_, rfl⟩
            simp only [← hW3]
            have kL3 := Is3.stored W2 L (setA x p 0) (setB y p 0) (setC c p 0) kL2
            have fL3 := Free3.stored W2 L (.int .i64 (setA x p 0)) (.int .i64 (setB y p 0)) (.int .i64 (setC c p 0)) ⟨d1, d2, d3⟩
            have kF3 := ((kF2.other (a := ⟨L, 0, none⟩) hne (.int .i64 (setA x p 0))).other (a := ⟨L, 1, none⟩) hne (.int .i64 (setB y p 0))).other (a := ⟨L, 2, none⟩) hne (.int .i64 (setC c p 0))
            have fF3 := ((fF2.any ⟨L, 0, none⟩ (.int .i64 (setA x p 0))).any ⟨L, 1, none⟩ (.int .i64 (setB y p 0))).any ⟨L, 2, none⟩ (.int .i64 (setC c p 0))
            have bel3 := ((bel2.setCell (p := ⟨L, 0, none⟩) hL (.int .i64 (setA x p 0))).setCell (p := ⟨L, 1, none⟩) hL (.int .i64 (setB y p 0))).setCell (p := ⟨L, 2, none⟩) hL (.int .i64 (setC c p 0))
            rw [← hW3] at kL3 fL3 kF3 fF3 bel3
            clear hW3 kL2 kF2 k82 fF2 bel2 d1 d2 d3
            have hall : allV (setA x p 0) (setB y p 0) (setC c p 0) = setA x p 0 + setB y p 0 + setC c p 0 := by unfold allV; rw [if_pos okv]
            have HALL := hide hall
            have hchk : chkV (setA x p 0) (setB y p 0) (setC c p 0) = 0 := by unfold chkV; rw [if_pos okv]
            have HCHK := hide hchk
            clear hall hchk
            have okw := okv
            obtain ⟨o0, o1, o2, o3, o4, o5⟩ := okw
            have v1 : IntKind.i64.wrap (setA x p 0 + setB y p 0) = setA x p 0 + setB y p 0 := IntWalk.i64_in _ (by omega)
            have v2 : IntKind.i64.wrap (setA x p 0 + setB y p 0 + setC c p 0) = setA x p 0 + setB y p 0 + setC c p 0 := IntWalk.i64_in _ (by omega)
            have a1 := cell_regrown kF3.1; have a2 := cell_regrown kF3.2.1; have a3 := cell_regrown kF3.2.2
            have c1 := cell_regrown kL3.1; have c2 := cell_regrown kL3.2.1; have c3 := cell_regrown kL3.2.2
            have cA := hide (fun W' => works_all _ _ _ _ W' HALL.out)
            have cC := hide (fun W' => check_ok _ _ _ W' okv)
            refine wp_region_quiet_below (by kernel_rfl) (by kernel_rfl) ?_
            repeat (go_big_quiet_step ((first | (go_at_call 20; exact Calls.regrown_of (cA.out _)) | (go_at_call 16; exact Calls.regrown_of (cC.out _)))))
            refine wpQuiet_nil ?_
            intro W4 hw2
            obtain ⟨⟨dq, osq⟩, hw3⟩ := hw2
            have hbq : Below W3.heap.size W3 W4 := by rw [hw3]; exact below_regrown W3 dq osq
            clear hw3 a1 a2 a3 c1 c2 c3 cA cC v1 v2
            replace bel3 := below_after bel3 hbq
            replace fL3 := fL3.keep hbq kL3.lt
            replace fF3 := fF3.keep hbq kF3.lt
            replace kL3 := kL3.keep hbq
            replace kF3 := kF3.keep hbq
            clear hbq
            go_wp2
            go_roundw
            case rel => exact ⟨k + 1, _, _, _, by go_num, by omega, by omega, okv, kL3, fL3, kF3, fF3, bel3⟩
            case measure => simp [intOf]; omega
        · simp only [bad, Bool.and_eq_true, decide_eq_true_eq] at hbad
          obtain ⟨hd2, hg0⟩ := hbad
          subst hd2 hg0
          have b1 := k8.1; have b2 := k8.2.1; have b3 := k8.2.2
          go_wp2
          go_roundw
          case rel => exact ⟨k + 1, x, y, c, by go_num, by omega, by omega, hok, kL, fL, kF, fF, bel⟩
          case measure => simp [intOf]; omega
    · by_cases hlt2 : k < len
      · go_wp2
        go_ret
        exact ⟨rfl, bel⟩
      · go_wp2
        go_ret
        exact ⟨rfl, bel⟩
end Go.Proofs.Ytfebopgljcagnaa
