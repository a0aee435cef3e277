/-
  The contract of Check: 0 where the setting may be, 9 where it may not.
-/
import Derived.Test.YtjhkgoppopfoaaaDoorRows1
import Derived.WalkSmall
import Derived.Laws.EntriesVeiled
namespace Go.Proofs.YtjhkgoppopfoaaaDoor
open Go.RowKit
set_option linter.unusedVariables false
set_option linter.unusedSimpArgs false
/-- What stays through Check's loop: the setting's box p, its fields x, the table R. -/
structure CkAt (w wr : World) (p x R B : Nat) (c : Cf) : Prop where
  cf : IsCf wr p c
  fld : IsFld wr x c (b2i c.sv)
  rows : RowsAt wr R B
  bel : Below w.heap.size w wr
theorem CkAt.keep {w wr w' : World} {p x R B : Nat} {c : Cf} (h : CkAt w wr p x R B c) (hb : Below wr.heap.size wr w') : CkAt w w' p x R B c :=
  ⟨h.cf.keep hb, h.fld.keep hb, h.rows.keep hb, below_after h.bel hb⟩
def CkRel (w : World) (p x R B : Nat) (c : Cf) (i : Value) (wr : World) : Prop := ∃ k : Nat, i = .int .i64 (k : Int) ∧ k ≤ 10 ∧ CkAt w wr p x R B c ∧ (∀ j, j < k → c.lo j ≤ c.num j ∧ c.num j ≤ c.hi j)
def errOf (c : Cf) : Int := if c.ok then 0 else 9
theorem errOf_no {c : Cf} {k : Nat} (hk : k < 10) (h : ¬ (c.lo k ≤ c.num k ∧ c.num k ≤ c.hi k)) : errOf c = 9 := by
  unfold errOf
  rw [if_neg]
  intro hc
  exact h ((Cf.ok_iff c).1 hc k hk)
theorem errOf_yes {c : Cf} (h : ∀ j, j < 10 → c.lo j ≤ c.num j ∧ c.num j ≤ c.hi j) : errOf c = 0 := by
  unfold errOf
  rw [if_pos ((Cf.ok_iff c).2 h)]
theorem below_drawn {w w' : World} (h : ∃ n, w' = w.drewN n) : Below w.heap.size w w' := by
  obtain ⟨n, rfl⟩ := h
  exact below_drewN (Below.refl _ _) n
theorem ret_int {k : IntKind} {a b : Int} (h : a = b) : Ending.returned (.int k a) = .returned (.int k b) := by rw [h]
set_option maxRecDepth 100000 in
set_option maxHeartbeats 8000000 in
theorem check_any (c : Cf) (w : World) : Calls Tryd.prog 16 #[c.val] w fun e w' => e = .returned (.int .i64 (errOf c)) ∧ Below w.heap.size w w' := by
  have s65 : ∀ w, (Go.sizeOf 65).run Tryd.prog w = .ok 1 w := fun _ => by kernel_rfl
  have s66 : ∀ w, (Go.sizeOf 66).run Tryd.prog w = .ok 1 w := fun _ => by kernel_rfl
  have hb0 := below_alloc1 w (.cells c.cells 24)
  have hp0 : IsCf (w.alloc (.cells c.cells 24)) w.heap.size c := IsCf.of_block (heap_at _ rfl)
  have start : ∀ W, Below w.heap.size w W → True := fun _ _ => trivial
  by_cases hd0 : 1200 ≤ c.dg
  · by_cases hd1 : c.dg ≤ 65527
    · go_enter Tryd.func16, Tryd.ntmps16
      simp only [Cf.val, Cf.cells] at hb0 hp0 ⊢
      go_wp2_with fail
      refine (opened_any c _).mono ?_; rintro e w1 ⟨x, rfl, hx, hf, hb1⟩
      have hp1 := hp0.keep hb1
      have bel1 := below_after hb0 hb1
      clear hb0 hb1 hp0 hx start
      obtain ⟨p, hp⟩ : ∃ p, w.heap.size = p := ⟨_, rfl⟩
      have HP := hide hp
      rw [hp] at hp1 ⊢
      clear hp
      have e1 := hp1.h1
      go_wp2_with fail
      refine (rows_any _).mono ?_; rintro e w2 ⟨R, rfl, hR, ⟨B, hrows⟩, hb2⟩
      have hA : CkAt w w2 p x R B c := ⟨hp1.keep hb2, hf.keep hb2, hrows, below_after bel1 hb2⟩
      clear hp1 hf hrows hb2 bel1 hR e1
      obtain ⟨x0, hx0⟩ : ∃ x0, b2i c.sv = x0 := ⟨_, rfl⟩
      have hx0b : 0 ≤ x0 ∧ x0 ≤ 1 := by rw [← hx0]; unfold b2i; split <;> omega
      have hx0' := hide hx0
      clear hx0
      go_wp2_with fail
      go_loopw [20] (CkRel w p x R B c) (fun i _ => (10 - intOf i).toNat)
      case atStart => exact ⟨0, rfl, by omega, hA, fun j hj => by omega⟩
      case round =>
        clear hA
        obtain ⟨k, rfl, hk, hA, hbef⟩ := hrel
        have hbef := hide hbef
        obtain rfl | rfl | rfl | rfl | rfl | rfl | rfl | rfl | rfl | rfl | rfl : k = 0 ∨ k = 1 ∨ k = 2 ∨ k = 3 ∨ k = 4 ∨ k = 5 ∨ k = 6 ∨ k = 7 ∨ k = 8 ∨ k = 9 ∨ k = 10 := by omega
        · obtain ⟨q0, q1, q2⟩ := hA.rows.r0
          go_wp2_with fail
          refine (ends_fix _ B (B + 1) 0 1 _ ?_ ?_).mono ?_
          · exact keep_cell (below_alloc1 _ _) (one_at hA.rows.c0)
          · exact keep_cell (below_alloc1 _ _) (one_at hA.rows.c1)
          rintro e w1 ⟨rfl, hw1⟩
          have hb1 := below_drawn hw1
          have hA1 := (hA.keep (below_alloc1 _ (.cells #[.string ⟨#[115, 101, 114, 118, 101, 114]⟩, .func (.func 67) #[] #[], .func (.func 97) #[] #[.pointer (some ⟨B, 0, none⟩), .pointer (some ⟨(B + 1), 0, none⟩)]] 68))).keep hb1
          have hr1 : w1.heap[wr.heap.size]? = some (.cells #[.string ⟨#[115, 101, 114, 118, 101, 114]⟩, .func (.func 67) #[] #[], .func (.func 97) #[] #[.pointer (some ⟨B, 0, none⟩), .pointer (some ⟨(B + 1), 0, none⟩)]] 68) := keep_heap hb1 (heap_at _ rfl)
          have d0 : w1.cell? ⟨wr.heap.size, 0, none⟩ = some (.string ⟨#[115, 101, 114, 118, 101, 114]⟩) := by simp [World.cell?, hr1]
          have d1 : w1.cell? ⟨wr.heap.size, 1, none⟩ = some (.func (.func 67) #[] #[]) := by simp [World.cell?, hr1]
          have d3 : w1.cell? ⟨wr.heap.size, 2, none⟩ = some (.func (.func 97) #[] #[.pointer (some ⟨B, 0, none⟩), .pointer (some ⟨(B + 1), 0, none⟩)]) := by simp [World.cell?, hr1]
          have d2 := hA1.fld.srv
          clear hw1 hb1 hr1 q0 q1 q2 hA
          rw [hx0'.out] at d2
          · have hlo : ¬ x0 < 0 := by omega
            have hhi : ¬ 1 < x0 := by omega
            · go_wp2_with fail
              refine (n_0 x _).mono ?_; rintro e w2 ⟨rfl, rfl⟩
              go_wp2_with fail
              refine (n_0 x _).mono ?_; rintro e w2 ⟨rfl, rfl⟩
              go_wp2_with fail
              go_roundw
              case rel =>
                refine ⟨1, by go_num, by omega, hA1, fun j hj => ?_⟩
                by_cases ej : j < 0
                · exact hbef.out j ej
                · obtain rfl : j = 0 := by omega
                  simp only [Cf.lo, Cf.hi, Cf.num]
                  rw [hx0'.out]
                  omega
              case measure => simp [intOf]
        · obtain ⟨q0, q1, q2⟩ := hA.rows.r1
          go_wp2_with fail
          refine (ends_fix _ (B + 2) (B + 3) 1200 65527 _ ?_ ?_).mono ?_
          · exact keep_cell (below_alloc1 _ _) (one_at hA.rows.c2)
          · exact keep_cell (below_alloc1 _ _) (one_at hA.rows.c3)
          rintro e w1 ⟨rfl, hw1⟩
          have hb1 := below_drawn hw1
          have hA1 := (hA.keep (below_alloc1 _ (.cells #[.string ⟨#[100, 97, 116, 97, 103, 114, 97, 109]⟩, .func (.func 69) #[] #[], .func (.func 97) #[] #[.pointer (some ⟨(B + 2), 0, none⟩), .pointer (some ⟨(B + 3), 0, none⟩)]] 68))).keep hb1
          have hr1 : w1.heap[wr.heap.size]? = some (.cells #[.string ⟨#[100, 97, 116, 97, 103, 114, 97, 109]⟩, .func (.func 69) #[] #[], .func (.func 97) #[] #[.pointer (some ⟨(B + 2), 0, none⟩), .pointer (some ⟨(B + 3), 0, none⟩)]] 68) := keep_heap hb1 (heap_at _ rfl)
          have d0 : w1.cell? ⟨wr.heap.size, 0, none⟩ = some (.string ⟨#[100, 97, 116, 97, 103, 114, 97, 109]⟩) := by simp [World.cell?, hr1]
          have d1 : w1.cell? ⟨wr.heap.size, 1, none⟩ = some (.func (.func 69) #[] #[]) := by simp [World.cell?, hr1]
          have d3 : w1.cell? ⟨wr.heap.size, 2, none⟩ = some (.func (.func 97) #[] #[.pointer (some ⟨(B + 2), 0, none⟩), .pointer (some ⟨(B + 3), 0, none⟩)]) := by simp [World.cell?, hr1]
          have d2 := hA1.fld.cf.h1
          clear hw1 hb1 hr1 q0 q1 q2 hA
          · have hlo : ¬ c.dg < 1200 := by omega
            have hhi : ¬ 65527 < c.dg := by omega
            · go_wp2_with fail
              refine (n_1 x _).mono ?_; rintro e w2 ⟨rfl, rfl⟩
              go_wp2_with fail
              refine (n_1 x _).mono ?_; rintro e w2 ⟨rfl, rfl⟩
              go_wp2_with fail
              go_roundw
              case rel =>
                refine ⟨2, by go_num, by omega, hA1, fun j hj => ?_⟩
                by_cases ej : j < 1
                · exact hbef.out j ej
                · obtain rfl : j = 1 := by omega
                  simp only [Cf.lo, Cf.hi, Cf.num]
                  skip
                  omega
              case measure => simp [intOf]
        · obtain ⟨q0, q1, q2⟩ := hA.rows.r2
          go_wp2_with fail
          refine (ends_2 p c _ ?_ hd0 hd1).mono ?_
          · exact hA.cf.keep (below_alloc1 _ _)
          rintro e w1 ⟨rfl, hw1⟩
          have hb1 := below_drawn hw1
          have hA1 := (hA.keep (below_alloc1 _ (.cells #[.string ⟨#[102, 105, 114, 115, 116]⟩, .func (.func 70) #[] #[], .func (.func 71) #[] #[]] 68))).keep hb1
          have hr1 : w1.heap[wr.heap.size]? = some (.cells #[.string ⟨#[102, 105, 114, 115, 116]⟩, .func (.func 70) #[] #[], .func (.func 71) #[] #[]] 68) := keep_heap hb1 (heap_at _ rfl)
          have d0 : w1.cell? ⟨wr.heap.size, 0, none⟩ = some (.string ⟨#[102, 105, 114, 115, 116]⟩) := by simp [World.cell?, hr1]
          have d1 : w1.cell? ⟨wr.heap.size, 1, none⟩ = some (.func (.func 70) #[] #[]) := by simp [World.cell?, hr1]
          have d3 : w1.cell? ⟨wr.heap.size, 2, none⟩ = some (.func (.func 71) #[] #[]) := by simp [World.cell?, hr1]
          have d2 := hA1.fld.cf.h2
          clear hw1 hb1 hr1 q0 q1 q2 hA
          by_cases hlo : c.fi < (2 * c.dg)
          · have HE := hide (errOf_no (c := c) (k := 2) (by omega) (by simp only [Cf.lo, Cf.hi, Cf.num]; omega))
            go_wp2_with fail
            refine (n_2 x _).mono ?_; rintro e w2 ⟨rfl, rfl⟩
            go_wp2_with fail
            go_ret
            exact ⟨ret_int HE.out.symm, hA1.bel⟩
          · by_cases hhi : c.mo < c.fi
            · have HE := hide (errOf_no (c := c) (k := 2) (by omega) (by simp only [Cf.lo, Cf.hi, Cf.num]; omega))
              go_wp2_with fail
              refine (n_2 x _).mono ?_; rintro e w2 ⟨rfl, rfl⟩
              go_wp2_with fail
              refine (n_2 x _).mono ?_; rintro e w2 ⟨rfl, rfl⟩
              go_wp2_with fail
              go_ret
              exact ⟨ret_int HE.out.symm, hA1.bel⟩
            · go_wp2_with fail
              refine (n_2 x _).mono ?_; rintro e w2 ⟨rfl, rfl⟩
              go_wp2_with fail
              refine (n_2 x _).mono ?_; rintro e w2 ⟨rfl, rfl⟩
              go_wp2_with fail
              go_roundw
              case rel =>
                refine ⟨3, by go_num, by omega, hA1, fun j hj => ?_⟩
                by_cases ej : j < 2
                · exact hbef.out j ej
                · obtain rfl : j = 2 := by omega
                  simp only [Cf.lo, Cf.hi, Cf.num]
                  skip
                  omega
              case measure => simp [intOf]
        · obtain ⟨q0, q1, q2⟩ := hA.rows.r3
          go_wp2_with fail
          refine (ends_3 p c _ ?_ hd0 hd1).mono ?_
          · exact hA.cf.keep (below_alloc1 _ _)
          rintro e w1 ⟨rfl, hw1⟩
          have hb1 := below_drawn hw1
          have hA1 := (hA.keep (below_alloc1 _ (.cells #[.string ⟨#[109, 111, 115, 116]⟩, .func (.func 72) #[] #[], .func (.func 73) #[] #[]] 68))).keep hb1
          have hr1 : w1.heap[wr.heap.size]? = some (.cells #[.string ⟨#[109, 111, 115, 116]⟩, .func (.func 72) #[] #[], .func (.func 73) #[] #[]] 68) := keep_heap hb1 (heap_at _ rfl)
          have d0 : w1.cell? ⟨wr.heap.size, 0, none⟩ = some (.string ⟨#[109, 111, 115, 116]⟩) := by simp [World.cell?, hr1]
          have d1 : w1.cell? ⟨wr.heap.size, 1, none⟩ = some (.func (.func 72) #[] #[]) := by simp [World.cell?, hr1]
          have d3 : w1.cell? ⟨wr.heap.size, 2, none⟩ = some (.func (.func 73) #[] #[]) := by simp [World.cell?, hr1]
          have d2 := hA1.fld.cf.h3
          clear hw1 hb1 hr1 q0 q1 q2 hA
          by_cases hlo : c.mo < (2 * c.dg)
          · have HE := hide (errOf_no (c := c) (k := 3) (by omega) (by simp only [Cf.lo, Cf.hi, Cf.num]; omega))
            go_wp2_with fail
            refine (n_3 x _).mono ?_; rintro e w2 ⟨rfl, rfl⟩
            go_wp2_with fail
            go_ret
            exact ⟨ret_int HE.out.symm, hA1.bel⟩
          · by_cases hhi : 1099511627776 < c.mo
            · have HE := hide (errOf_no (c := c) (k := 3) (by omega) (by simp only [Cf.lo, Cf.hi, Cf.num]; omega))
              go_wp2_with fail
              refine (n_3 x _).mono ?_; rintro e w2 ⟨rfl, rfl⟩
              go_wp2_with fail
              refine (n_3 x _).mono ?_; rintro e w2 ⟨rfl, rfl⟩
              go_wp2_with fail
              go_ret
              exact ⟨ret_int HE.out.symm, hA1.bel⟩
            · go_wp2_with fail
              refine (n_3 x _).mono ?_; rintro e w2 ⟨rfl, rfl⟩
              go_wp2_with fail
              refine (n_3 x _).mono ?_; rintro e w2 ⟨rfl, rfl⟩
              go_wp2_with fail
              go_roundw
              case rel =>
                refine ⟨4, by go_num, by omega, hA1, fun j hj => ?_⟩
                by_cases ej : j < 3
                · exact hbef.out j ej
                · obtain rfl : j = 3 := by omega
                  simp only [Cf.lo, Cf.hi, Cf.num]
                  skip
                  omega
              case measure => simp [intOf]
        · obtain ⟨q0, q1, q2⟩ := hA.rows.r4
          go_wp2_with fail
          refine (ends_fix _ (B + 4) (B + 5) 1000000 60000000000 _ ?_ ?_).mono ?_
          · exact keep_cell (below_alloc1 _ _) (one_at hA.rows.c4)
          · exact keep_cell (below_alloc1 _ _) (one_at hA.rows.c5)
          rintro e w1 ⟨rfl, hw1⟩
          have hb1 := below_drawn hw1
          have hA1 := (hA.keep (below_alloc1 _ (.cells #[.string ⟨#[114, 116, 116]⟩, .func (.func 74) #[] #[], .func (.func 97) #[] #[.pointer (some ⟨(B + 4), 0, none⟩), .pointer (some ⟨(B + 5), 0, none⟩)]] 68))).keep hb1
          have hr1 : w1.heap[wr.heap.size]? = some (.cells #[.string ⟨#[114, 116, 116]⟩, .func (.func 74) #[] #[], .func (.func 97) #[] #[.pointer (some ⟨(B + 4), 0, none⟩), .pointer (some ⟨(B + 5), 0, none⟩)]] 68) := keep_heap hb1 (heap_at _ rfl)
          have d0 : w1.cell? ⟨wr.heap.size, 0, none⟩ = some (.string ⟨#[114, 116, 116]⟩) := by simp [World.cell?, hr1]
          have d1 : w1.cell? ⟨wr.heap.size, 1, none⟩ = some (.func (.func 74) #[] #[]) := by simp [World.cell?, hr1]
          have d3 : w1.cell? ⟨wr.heap.size, 2, none⟩ = some (.func (.func 97) #[] #[.pointer (some ⟨(B + 4), 0, none⟩), .pointer (some ⟨(B + 5), 0, none⟩)]) := by simp [World.cell?, hr1]
          have d2 := hA1.fld.cf.h4
          clear hw1 hb1 hr1 q0 q1 q2 hA
          by_cases hlo : c.rt < 1000000
          · have HE := hide (errOf_no (c := c) (k := 4) (by omega) (by simp only [Cf.lo, Cf.hi, Cf.num]; omega))
            go_wp2_with fail
            refine (n_4 x _).mono ?_; rintro e w2 ⟨rfl, rfl⟩
            go_wp2_with fail
            go_ret
            exact ⟨ret_int HE.out.symm, hA1.bel⟩
          · by_cases hhi : 60000000000 < c.rt
            · have HE := hide (errOf_no (c := c) (k := 4) (by omega) (by simp only [Cf.lo, Cf.hi, Cf.num]; omega))
              go_wp2_with fail
              refine (n_4 x _).mono ?_; rintro e w2 ⟨rfl, rfl⟩
              go_wp2_with fail
              refine (n_4 x _).mono ?_; rintro e w2 ⟨rfl, rfl⟩
              go_wp2_with fail
              go_ret
              exact ⟨ret_int HE.out.symm, hA1.bel⟩
            · go_wp2_with fail
              refine (n_4 x _).mono ?_; rintro e w2 ⟨rfl, rfl⟩
              go_wp2_with fail
              refine (n_4 x _).mono ?_; rintro e w2 ⟨rfl, rfl⟩
              go_wp2_with fail
              go_roundw
              case rel =>
                refine ⟨5, by go_num, by omega, hA1, fun j hj => ?_⟩
                by_cases ej : j < 4
                · exact hbef.out j ej
                · obtain rfl : j = 4 := by omega
                  simp only [Cf.lo, Cf.hi, Cf.num]
                  skip
                  omega
              case measure => simp [intOf]
        · obtain ⟨q0, q1, q2⟩ := hA.rows.r5
          go_wp2_with fail
          refine (ends_fix _ (B + 6) (B + 7) 0 16384000000 _ ?_ ?_).mono ?_
          · exact keep_cell (below_alloc1 _ _) (one_at hA.rows.c6)
          · exact keep_cell (below_alloc1 _ _) (one_at hA.rows.c7)
          rintro e w1 ⟨rfl, hw1⟩
          have hb1 := below_drawn hw1
          have hA1 := (hA.keep (below_alloc1 _ (.cells #[.string ⟨#[100, 101, 108, 97, 121]⟩, .func (.func 75) #[] #[], .func (.func 97) #[] #[.pointer (some ⟨(B + 6), 0, none⟩), .pointer (some ⟨(B + 7), 0, none⟩)]] 68))).keep hb1
          have hr1 : w1.heap[wr.heap.size]? = some (.cells #[.string ⟨#[100, 101, 108, 97, 121]⟩, .func (.func 75) #[] #[], .func (.func 97) #[] #[.pointer (some ⟨(B + 6), 0, none⟩), .pointer (some ⟨(B + 7), 0, none⟩)]] 68) := keep_heap hb1 (heap_at _ rfl)
          have d0 : w1.cell? ⟨wr.heap.size, 0, none⟩ = some (.string ⟨#[100, 101, 108, 97, 121]⟩) := by simp [World.cell?, hr1]
          have d1 : w1.cell? ⟨wr.heap.size, 1, none⟩ = some (.func (.func 75) #[] #[]) := by simp [World.cell?, hr1]
          have d3 : w1.cell? ⟨wr.heap.size, 2, none⟩ = some (.func (.func 97) #[] #[.pointer (some ⟨(B + 6), 0, none⟩), .pointer (some ⟨(B + 7), 0, none⟩)]) := by simp [World.cell?, hr1]
          have d2 := hA1.fld.cf.h5
          clear hw1 hb1 hr1 q0 q1 q2 hA
          by_cases hlo : c.md < 0
          · have HE := hide (errOf_no (c := c) (k := 5) (by omega) (by simp only [Cf.lo, Cf.hi, Cf.num]; omega))
            go_wp2_with fail
            refine (n_5 x _).mono ?_; rintro e w2 ⟨rfl, rfl⟩
            go_wp2_with fail
            go_ret
            exact ⟨ret_int HE.out.symm, hA1.bel⟩
          · by_cases hhi : 16384000000 < c.md
            · have HE := hide (errOf_no (c := c) (k := 5) (by omega) (by simp only [Cf.lo, Cf.hi, Cf.num]; omega))
              go_wp2_with fail
              refine (n_5 x _).mono ?_; rintro e w2 ⟨rfl, rfl⟩
              go_wp2_with fail
              refine (n_5 x _).mono ?_; rintro e w2 ⟨rfl, rfl⟩
              go_wp2_with fail
              go_ret
              exact ⟨ret_int HE.out.symm, hA1.bel⟩
            · go_wp2_with fail
              refine (n_5 x _).mono ?_; rintro e w2 ⟨rfl, rfl⟩
              go_wp2_with fail
              refine (n_5 x _).mono ?_; rintro e w2 ⟨rfl, rfl⟩
              go_wp2_with fail
              go_roundw
              case rel =>
                refine ⟨6, by go_num, by omega, hA1, fun j hj => ?_⟩
                by_cases ej : j < 5
                · exact hbef.out j ej
                · obtain rfl : j = 5 := by omega
                  simp only [Cf.lo, Cf.hi, Cf.num]
                  skip
                  omega
              case measure => simp [intOf]
        · obtain ⟨q0, q1, q2⟩ := hA.rows.r6
          go_wp2_with fail
          refine (ends_fix _ (B + 8) (B + 9) 0 20 _ ?_ ?_).mono ?_
          · exact keep_cell (below_alloc1 _ _) (one_at hA.rows.c8)
          · exact keep_cell (below_alloc1 _ _) (one_at hA.rows.c9)
          rintro e w1 ⟨rfl, hw1⟩
          have hb1 := below_drawn hw1
          have hA1 := (hA.keep (below_alloc1 _ (.cells #[.string ⟨#[101, 120, 112]⟩, .func (.func 76) #[] #[], .func (.func 97) #[] #[.pointer (some ⟨(B + 8), 0, none⟩), .pointer (some ⟨(B + 9), 0, none⟩)]] 68))).keep hb1
          have hr1 : w1.heap[wr.heap.size]? = some (.cells #[.string ⟨#[101, 120, 112]⟩, .func (.func 76) #[] #[], .func (.func 97) #[] #[.pointer (some ⟨(B + 8), 0, none⟩), .pointer (some ⟨(B + 9), 0, none⟩)]] 68) := keep_heap hb1 (heap_at _ rfl)
          have d0 : w1.cell? ⟨wr.heap.size, 0, none⟩ = some (.string ⟨#[101, 120, 112]⟩) := by simp [World.cell?, hr1]
          have d1 : w1.cell? ⟨wr.heap.size, 1, none⟩ = some (.func (.func 76) #[] #[]) := by simp [World.cell?, hr1]
          have d3 : w1.cell? ⟨wr.heap.size, 2, none⟩ = some (.func (.func 97) #[] #[.pointer (some ⟨(B + 8), 0, none⟩), .pointer (some ⟨(B + 9), 0, none⟩)]) := by simp [World.cell?, hr1]
          have d2 := hA1.fld.cf.h6
          clear hw1 hb1 hr1 q0 q1 q2 hA
          by_cases hlo : c.ex < 0
          · have HE := hide (errOf_no (c := c) (k := 6) (by omega) (by simp only [Cf.lo, Cf.hi, Cf.num]; omega))
            go_wp2_with fail
            refine (n_6 x _).mono ?_; rintro e w2 ⟨rfl, rfl⟩
            go_wp2_with fail
            go_ret
            exact ⟨ret_int HE.out.symm, hA1.bel⟩
          · by_cases hhi : 20 < c.ex
            · have HE := hide (errOf_no (c := c) (k := 6) (by omega) (by simp only [Cf.lo, Cf.hi, Cf.num]; omega))
              go_wp2_with fail
              refine (n_6 x _).mono ?_; rintro e w2 ⟨rfl, rfl⟩
              go_wp2_with fail
              refine (n_6 x _).mono ?_; rintro e w2 ⟨rfl, rfl⟩
              go_wp2_with fail
              go_ret
              exact ⟨ret_int HE.out.symm, hA1.bel⟩
            · go_wp2_with fail
              refine (n_6 x _).mono ?_; rintro e w2 ⟨rfl, rfl⟩
              go_wp2_with fail
              refine (n_6 x _).mono ?_; rintro e w2 ⟨rfl, rfl⟩
              go_wp2_with fail
              go_roundw
              case rel =>
                refine ⟨7, by go_num, by omega, hA1, fun j hj => ?_⟩
                by_cases ej : j < 6
                · exact hbef.out j ej
                · obtain rfl : j = 6 := by omega
                  simp only [Cf.lo, Cf.hi, Cf.num]
                  skip
                  omega
              case measure => simp [intOf]
        · obtain ⟨q0, q1, q2⟩ := hA.rows.r7
          go_wp2_with fail
          refine (ends_7 p c _ ?_).mono ?_
          · exact hA.cf.keep (below_alloc1 _ _)
          rintro e w1 ⟨rfl, hw1⟩
          have hb1 := below_drawn hw1
          have hA1 := (hA.keep (below_alloc1 _ (.cells #[.string ⟨#[98, 117, 114, 115, 116]⟩, .func (.func 77) #[] #[], .func (.func 78) #[] #[]] 68))).keep hb1
          have hr1 : w1.heap[wr.heap.size]? = some (.cells #[.string ⟨#[98, 117, 114, 115, 116]⟩, .func (.func 77) #[] #[], .func (.func 78) #[] #[]] 68) := keep_heap hb1 (heap_at _ rfl)
          have d0 : w1.cell? ⟨wr.heap.size, 0, none⟩ = some (.string ⟨#[98, 117, 114, 115, 116]⟩) := by simp [World.cell?, hr1]
          have d1 : w1.cell? ⟨wr.heap.size, 1, none⟩ = some (.func (.func 77) #[] #[]) := by simp [World.cell?, hr1]
          have d3 : w1.cell? ⟨wr.heap.size, 2, none⟩ = some (.func (.func 78) #[] #[]) := by simp [World.cell?, hr1]
          have d2 := hA1.fld.cf.h7
          clear hw1 hb1 hr1 q0 q1 q2 hA
          by_cases hlo : c.bu < c.dg
          · have HE := hide (errOf_no (c := c) (k := 7) (by omega) (by simp only [Cf.lo, Cf.hi, Cf.num]; omega))
            go_wp2_with fail
            refine (n_7 x _).mono ?_; rintro e w2 ⟨rfl, rfl⟩
            go_wp2_with fail
            go_ret
            exact ⟨ret_int HE.out.symm, hA1.bel⟩
          · by_cases hhi : 1073741824 < c.bu
            · have HE := hide (errOf_no (c := c) (k := 7) (by omega) (by simp only [Cf.lo, Cf.hi, Cf.num]; omega))
              go_wp2_with fail
              refine (n_7 x _).mono ?_; rintro e w2 ⟨rfl, rfl⟩
              go_wp2_with fail
              refine (n_7 x _).mono ?_; rintro e w2 ⟨rfl, rfl⟩
              go_wp2_with fail
              go_ret
              exact ⟨ret_int HE.out.symm, hA1.bel⟩
            · go_wp2_with fail
              refine (n_7 x _).mono ?_; rintro e w2 ⟨rfl, rfl⟩
              go_wp2_with fail
              refine (n_7 x _).mono ?_; rintro e w2 ⟨rfl, rfl⟩
              go_wp2_with fail
              go_roundw
              case rel =>
                refine ⟨8, by go_num, by omega, hA1, fun j hj => ?_⟩
                by_cases ej : j < 7
                · exact hbef.out j ej
                · obtain rfl : j = 7 := by omega
                  simp only [Cf.lo, Cf.hi, Cf.num]
                  skip
                  omega
              case measure => simp [intOf]
        · obtain ⟨q0, q1, q2⟩ := hA.rows.r8
          go_wp2_with fail
          refine (ends_fix _ (B + 10) (B + 11) 2 256 _ ?_ ?_).mono ?_
          · exact keep_cell (below_alloc1 _ _) (one_at hA.rows.c10)
          · exact keep_cell (below_alloc1 _ _) (one_at hA.rows.c11)
          rintro e w1 ⟨rfl, hw1⟩
          have hb1 := below_drawn hw1
          have hA1 := (hA.keep (below_alloc1 _ (.cells #[.string ⟨#[114, 111, 111, 109]⟩, .func (.func 79) #[] #[], .func (.func 97) #[] #[.pointer (some ⟨(B + 10), 0, none⟩), .pointer (some ⟨(B + 11), 0, none⟩)]] 68))).keep hb1
          have hr1 : w1.heap[wr.heap.size]? = some (.cells #[.string ⟨#[114, 111, 111, 109]⟩, .func (.func 79) #[] #[], .func (.func 97) #[] #[.pointer (some ⟨(B + 10), 0, none⟩), .pointer (some ⟨(B + 11), 0, none⟩)]] 68) := keep_heap hb1 (heap_at _ rfl)
          have d0 : w1.cell? ⟨wr.heap.size, 0, none⟩ = some (.string ⟨#[114, 111, 111, 109]⟩) := by simp [World.cell?, hr1]
          have d1 : w1.cell? ⟨wr.heap.size, 1, none⟩ = some (.func (.func 79) #[] #[]) := by simp [World.cell?, hr1]
          have d3 : w1.cell? ⟨wr.heap.size, 2, none⟩ = some (.func (.func 97) #[] #[.pointer (some ⟨(B + 10), 0, none⟩), .pointer (some ⟨(B + 11), 0, none⟩)]) := by simp [World.cell?, hr1]
          have d2 := hA1.fld.cf.h8
          clear hw1 hb1 hr1 q0 q1 q2 hA
          by_cases hlo : c.ro < 2
          · have HE := hide (errOf_no (c := c) (k := 8) (by omega) (by simp only [Cf.lo, Cf.hi, Cf.num]; omega))
            go_wp2_with fail
            refine (n_8 x _).mono ?_; rintro e w2 ⟨rfl, rfl⟩
            go_wp2_with fail
            go_ret
            exact ⟨ret_int HE.out.symm, hA1.bel⟩
          · by_cases hhi : 256 < c.ro
            · have HE := hide (errOf_no (c := c) (k := 8) (by omega) (by simp only [Cf.lo, Cf.hi, Cf.num]; omega))
              go_wp2_with fail
              refine (n_8 x _).mono ?_; rintro e w2 ⟨rfl, rfl⟩
              go_wp2_with fail
              refine (n_8 x _).mono ?_; rintro e w2 ⟨rfl, rfl⟩
              go_wp2_with fail
              go_ret
              exact ⟨ret_int HE.out.symm, hA1.bel⟩
            · go_wp2_with fail
              refine (n_8 x _).mono ?_; rintro e w2 ⟨rfl, rfl⟩
              go_wp2_with fail
              refine (n_8 x _).mono ?_; rintro e w2 ⟨rfl, rfl⟩
              go_wp2_with fail
              go_roundw
              case rel =>
                refine ⟨9, by go_num, by omega, hA1, fun j hj => ?_⟩
                by_cases ej : j < 8
                · exact hbef.out j ej
                · obtain rfl : j = 8 := by omega
                  simp only [Cf.lo, Cf.hi, Cf.num]
                  skip
                  omega
              case measure => simp [intOf]
        · obtain ⟨q0, q1, q2⟩ := hA.rows.r9
          go_wp2_with fail
          refine (ends_fix _ (B + 12) (B + 13) 0 10 _ ?_ ?_).mono ?_
          · exact keep_cell (below_alloc1 _ _) (one_at hA.rows.c12)
          · exact keep_cell (below_alloc1 _ _) (one_at hA.rows.c13)
          rintro e w1 ⟨rfl, hw1⟩
          have hb1 := below_drawn hw1
          have hA1 := (hA.keep (below_alloc1 _ (.cells #[.string ⟨#[98, 97, 99, 107, 115]⟩, .func (.func 80) #[] #[], .func (.func 97) #[] #[.pointer (some ⟨(B + 12), 0, none⟩), .pointer (some ⟨(B + 13), 0, none⟩)]] 68))).keep hb1
          have hr1 : w1.heap[wr.heap.size]? = some (.cells #[.string ⟨#[98, 97, 99, 107, 115]⟩, .func (.func 80) #[] #[], .func (.func 97) #[] #[.pointer (some ⟨(B + 12), 0, none⟩), .pointer (some ⟨(B + 13), 0, none⟩)]] 68) := keep_heap hb1 (heap_at _ rfl)
          have d0 : w1.cell? ⟨wr.heap.size, 0, none⟩ = some (.string ⟨#[98, 97, 99, 107, 115]⟩) := by simp [World.cell?, hr1]
          have d1 : w1.cell? ⟨wr.heap.size, 1, none⟩ = some (.func (.func 80) #[] #[]) := by simp [World.cell?, hr1]
          have d3 : w1.cell? ⟨wr.heap.size, 2, none⟩ = some (.func (.func 97) #[] #[.pointer (some ⟨(B + 12), 0, none⟩), .pointer (some ⟨(B + 13), 0, none⟩)]) := by simp [World.cell?, hr1]
          have d2 := hA1.fld.cf.h9
          clear hw1 hb1 hr1 q0 q1 q2 hA
          by_cases hlo : c.ba < 0
          · have HE := hide (errOf_no (c := c) (k := 9) (by omega) (by simp only [Cf.lo, Cf.hi, Cf.num]; omega))
            go_wp2_with fail
            refine (n_9 x _).mono ?_; rintro e w2 ⟨rfl, rfl⟩
            go_wp2_with fail
            go_ret
            exact ⟨ret_int HE.out.symm, hA1.bel⟩
          · by_cases hhi : 10 < c.ba
            · have HE := hide (errOf_no (c := c) (k := 9) (by omega) (by simp only [Cf.lo, Cf.hi, Cf.num]; omega))
              go_wp2_with fail
              refine (n_9 x _).mono ?_; rintro e w2 ⟨rfl, rfl⟩
              go_wp2_with fail
              refine (n_9 x _).mono ?_; rintro e w2 ⟨rfl, rfl⟩
              go_wp2_with fail
              go_ret
              exact ⟨ret_int HE.out.symm, hA1.bel⟩
            · go_wp2_with fail
              refine (n_9 x _).mono ?_; rintro e w2 ⟨rfl, rfl⟩
              go_wp2_with fail
              refine (n_9 x _).mono ?_; rintro e w2 ⟨rfl, rfl⟩
              go_wp2_with fail
              go_roundw
              case rel =>
                refine ⟨10, by go_num, by omega, hA1, fun j hj => ?_⟩
                by_cases ej : j < 9
                · exact hbef.out j ej
                · obtain rfl : j = 9 := by omega
                  simp only [Cf.lo, Cf.hi, Cf.num]
                  skip
                  omega
              case measure => simp [intOf]
        · have HE := hide (errOf_yes hbef.out)
          go_wp2_with fail
          go_ret
          exact ⟨ret_int HE.out.symm, hA.bel⟩
    · have HE := hide (errOf_no (c := c) (k := 1) (by omega) (by simp only [Cf.lo, Cf.hi, Cf.num]; omega))
      go_enter Tryd.func16, Tryd.ntmps16
      simp only [Cf.val, Cf.cells] at hb0 hp0 ⊢
      go_wp2_with fail
      refine (opened_any c _).mono ?_; rintro e w1 ⟨x, rfl, hx, hf, hb1⟩
      have e1 := (hp0.keep hb1).h1
      go_wp2_with fail
      go_ret
      exact ⟨ret_int HE.out.symm, below_after hb0 hb1⟩
  · have HE := hide (errOf_no (c := c) (k := 1) (by omega) (by simp only [Cf.lo, Cf.hi, Cf.num]; omega))
    go_enter Tryd.func16, Tryd.ntmps16
    simp only [Cf.val, Cf.cells] at hb0 hp0 ⊢
    go_wp2_with fail
    refine (opened_any c _).mono ?_; rintro e w1 ⟨x, rfl, hx, hf, hb1⟩
    have e1 := (hp0.keep hb1).h1
    go_wp2_with fail
    go_ret
    exact ⟨ret_int HE.out.symm, below_after hb0 hb1⟩
end Go.Proofs.YtjhkgoppopfoaaaDoor
