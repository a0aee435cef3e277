/-
  The walk of ConfTells: the document's Check and Text answer as the program's.
-/
import Derived.Test.YtjhkgoppopfoaaaDoorAgain
import Derived.Test.YtjhkgoppopfoaaaDoorRef
namespace Go.Proofs.YtjhkgoppopfoaaaDoor
open Go.RowKit Go.Lib
set_option linter.unusedVariables false
set_option linter.unusedSimpArgs false

/-- The document's tests in its order: the datagram, the most, the first .. -/
def tests (c : Cf) : List Bool := [decide (1200 ≤ c.dg) && decide (c.dg ≤ 65527), decide (2 * c.dg ≤ c.mo) && decide (c.mo ≤ 1099511627776), decide (2 * c.dg ≤ c.fi) && decide (c.fi ≤ c.mo), decide (1000000 ≤ c.rt) && decide (c.rt ≤ 60000000000),
  decide (0 ≤ c.md) && decide (c.md ≤ 16384000000), decide (0 ≤ c.ex) && decide (c.ex ≤ 20), decide (c.dg ≤ c.bu) && decide (c.bu ≤ 1073741824), decide (2 ≤ c.ro) && decide (c.ro ≤ 256), decide (0 ≤ c.ba) && decide (c.ba ≤ 10)]
theorem tests_ok (c : Cf) (h : ∀ b ∈ tests c, b = true) : errOf c = 0 := by
  unfold errOf
  rw [if_pos]
  simp only [tests, List.mem_cons, List.not_mem_nil, or_false, forall_eq_or_imp, forall_eq, Bool.and_eq_true, decide_eq_true_eq] at h
  unfold Cf.ok
  omega
theorem tests_no (c : Cf) (b : Bool) (hm : b ∈ tests c) (h : b = false) : errOf c = 9 := by
  unfold errOf
  rw [if_neg]
  intro hk
  have : ∀ b ∈ tests c, b = true := by
    unfold Cf.ok at hk
    simp only [tests, List.mem_cons, List.not_mem_nil, or_false, forall_eq_or_imp, forall_eq, Bool.and_eq_true, decide_eq_true_eq]
    omega
  rw [this b hm] at h; cases h
set_option maxRecDepth 100000 in
set_option maxHeartbeats 8000000 in
theorem rcheck_any (c : Cf) (w : World) : Calls Tryd.prog 38 #[c.val] w fun e w' => e = .returned (.int .i64 (errOf c)) ∧ Below w.heap.size w w' := by
  have hc := (IsCf.of_block (w := w.alloc (.cells c.cells 24)) (heap_at _ rfl) : IsCf _ w.heap.size c)
  obtain ⟨c0, c1, c2, c3, c4, c5, c6, c7, c8, c9⟩ := hc
  have HT := hide (tests_ok c)
  have HN := hide (tests_no c)
  have hb := below_alloc1 w (.cells c.cells 24)
  simp only [Cf.val, Cf.cells] at c0 c1 c2 c3 c4 c5 c6 c7 c8 c9 hb ⊢
  cases h0 : (decide (1200 ≤ c.dg) && decide (c.dg ≤ 65527)) with
  | false =>
    have H0 := hide h0
    clear h0
    go_enter Tryd.func38, Tryd.ntmps38
    go_wp2_with fail
    refine (rin _ _ _ _ _ H0.out).mono ?_; rintro e w' ⟨rfl, rfl⟩
    go_wp2_with fail
    go_ret
    exact ⟨by rw [HN.out _ (by simp only [tests, List.mem_cons, true_or, or_true]) H0.out]; rfl, hb⟩
  | true =>
    have hw2 : IntKind.i64.wrap (2 * c.dg) = 2 * c.dg := IntWalk.i64_in _ (by simp at h0; omega)
    have H0 := hide h0
    clear h0
    cases h1 : (decide (2 * c.dg ≤ c.mo) && decide (c.mo ≤ 1099511627776)) with
    | false =>
      have H1 := hide h1
      clear h1
      go_enter Tryd.func38, Tryd.ntmps38
      go_wp2_with fail
      refine (rin _ _ _ _ _ H0.out).mono ?_; rintro e w' ⟨rfl, rfl⟩
      go_wp2_with fail
      refine (rin _ _ _ _ _ H1.out).mono ?_; rintro e w' ⟨rfl, rfl⟩
      go_wp2_with fail
      go_ret
      exact ⟨by rw [HN.out _ (by simp only [tests, List.mem_cons, true_or, or_true]) H1.out]; rfl, hb⟩
    | true =>
      have H1 := hide h1
      clear h1
      cases h2 : (decide (2 * c.dg ≤ c.fi) && decide (c.fi ≤ c.mo)) with
      | false =>
        have H2 := hide h2
        clear h2
        go_enter Tryd.func38, Tryd.ntmps38
        go_wp2_with fail
        refine (rin _ _ _ _ _ H0.out).mono ?_; rintro e w' ⟨rfl, rfl⟩
        go_wp2_with fail
        refine (rin _ _ _ _ _ H1.out).mono ?_; rintro e w' ⟨rfl, rfl⟩
        go_wp2_with fail
        refine (rin _ _ _ _ _ H2.out).mono ?_; rintro e w' ⟨rfl, rfl⟩
        go_wp2_with fail
        go_ret
        exact ⟨by rw [HN.out _ (by simp only [tests, List.mem_cons, true_or, or_true]) H2.out]; rfl, hb⟩
      | true =>
        have H2 := hide h2
        clear h2
        cases h3 : (decide (1000000 ≤ c.rt) && decide (c.rt ≤ 60000000000)) with
        | false =>
          have H3 := hide h3
          clear h3
          go_enter Tryd.func38, Tryd.ntmps38
          go_wp2_with fail
          refine (rin _ _ _ _ _ H0.out).mono ?_; rintro e w' ⟨rfl, rfl⟩
          go_wp2_with fail
          refine (rin _ _ _ _ _ H1.out).mono ?_; rintro e w' ⟨rfl, rfl⟩
          go_wp2_with fail
          refine (rin _ _ _ _ _ H2.out).mono ?_; rintro e w' ⟨rfl, rfl⟩
          go_wp2_with fail
          refine (rin _ _ _ _ _ H3.out).mono ?_; rintro e w' ⟨rfl, rfl⟩
          go_wp2_with fail
          go_ret
          exact ⟨by rw [HN.out _ (by simp only [tests, List.mem_cons, true_or, or_true]) H3.out]; rfl, hb⟩
        | true =>
          have H3 := hide h3
          clear h3
          cases h4 : (decide (0 ≤ c.md) && decide (c.md ≤ 16384000000)) with
          | false =>
            have H4 := hide h4
            clear h4
            go_enter Tryd.func38, Tryd.ntmps38
            go_wp2_with fail
            refine (rin _ _ _ _ _ H0.out).mono ?_; rintro e w' ⟨rfl, rfl⟩
            go_wp2_with fail
            refine (rin _ _ _ _ _ H1.out).mono ?_; rintro e w' ⟨rfl, rfl⟩
            go_wp2_with fail
            refine (rin _ _ _ _ _ H2.out).mono ?_; rintro e w' ⟨rfl, rfl⟩
            go_wp2_with fail
            refine (rin _ _ _ _ _ H3.out).mono ?_; rintro e w' ⟨rfl, rfl⟩
            go_wp2_with fail
            refine (rin _ _ _ _ _ H4.out).mono ?_; rintro e w' ⟨rfl, rfl⟩
            go_wp2_with fail
            go_ret
            exact ⟨by rw [HN.out _ (by simp only [tests, List.mem_cons, true_or, or_true]) H4.out]; rfl, hb⟩
          | true =>
            have H4 := hide h4
            clear h4
            cases h5 : (decide (0 ≤ c.ex) && decide (c.ex ≤ 20)) with
            | false =>
              have H5 := hide h5
              clear h5
              go_enter Tryd.func38, Tryd.ntmps38
              go_wp2_with fail
              refine (rin _ _ _ _ _ H0.out).mono ?_; rintro e w' ⟨rfl, rfl⟩
              go_wp2_with fail
              refine (rin _ _ _ _ _ H1.out).mono ?_; rintro e w' ⟨rfl, rfl⟩
              go_wp2_with fail
              refine (rin _ _ _ _ _ H2.out).mono ?_; rintro e w' ⟨rfl, rfl⟩
              go_wp2_with fail
              refine (rin _ _ _ _ _ H3.out).mono ?_; rintro e w' ⟨rfl, rfl⟩
              go_wp2_with fail
              refine (rin _ _ _ _ _ H4.out).mono ?_; rintro e w' ⟨rfl, rfl⟩
              go_wp2_with fail
              refine (rin _ _ _ _ _ H5.out).mono ?_; rintro e w' ⟨rfl, rfl⟩
              go_wp2_with fail
              go_ret
              exact ⟨by rw [HN.out _ (by simp only [tests, List.mem_cons, true_or, or_true]) H5.out]; rfl, hb⟩
            | true =>
              have H5 := hide h5
              clear h5
              cases h6 : (decide (c.dg ≤ c.bu) && decide (c.bu ≤ 1073741824)) with
              | false =>
                have H6 := hide h6
                clear h6
                go_enter Tryd.func38, Tryd.ntmps38
                go_wp2_with fail
                refine (rin _ _ _ _ _ H0.out).mono ?_; rintro e w' ⟨rfl, rfl⟩
                go_wp2_with fail
                refine (rin _ _ _ _ _ H1.out).mono ?_; rintro e w' ⟨rfl, rfl⟩
                go_wp2_with fail
                refine (rin _ _ _ _ _ H2.out).mono ?_; rintro e w' ⟨rfl, rfl⟩
                go_wp2_with fail
                refine (rin _ _ _ _ _ H3.out).mono ?_; rintro e w' ⟨rfl, rfl⟩
                go_wp2_with fail
                refine (rin _ _ _ _ _ H4.out).mono ?_; rintro e w' ⟨rfl, rfl⟩
                go_wp2_with fail
                refine (rin _ _ _ _ _ H5.out).mono ?_; rintro e w' ⟨rfl, rfl⟩
                go_wp2_with fail
                refine (rin _ _ _ _ _ H6.out).mono ?_; rintro e w' ⟨rfl, rfl⟩
                go_wp2_with fail
                go_ret
                exact ⟨by rw [HN.out _ (by simp only [tests, List.mem_cons, true_or, or_true]) H6.out]; rfl, hb⟩
              | true =>
                have H6 := hide h6
                clear h6
                cases h7 : (decide (2 ≤ c.ro) && decide (c.ro ≤ 256)) with
                | false =>
                  have H7 := hide h7
                  clear h7
                  go_enter Tryd.func38, Tryd.ntmps38
                  go_wp2_with fail
                  refine (rin _ _ _ _ _ H0.out).mono ?_; rintro e w' ⟨rfl, rfl⟩
                  go_wp2_with fail
                  refine (rin _ _ _ _ _ H1.out).mono ?_; rintro e w' ⟨rfl, rfl⟩
                  go_wp2_with fail
                  refine (rin _ _ _ _ _ H2.out).mono ?_; rintro e w' ⟨rfl, rfl⟩
                  go_wp2_with fail
                  refine (rin _ _ _ _ _ H3.out).mono ?_; rintro e w' ⟨rfl, rfl⟩
                  go_wp2_with fail
                  refine (rin _ _ _ _ _ H4.out).mono ?_; rintro e w' ⟨rfl, rfl⟩
                  go_wp2_with fail
                  refine (rin _ _ _ _ _ H5.out).mono ?_; rintro e w' ⟨rfl, rfl⟩
                  go_wp2_with fail
                  refine (rin _ _ _ _ _ H6.out).mono ?_; rintro e w' ⟨rfl, rfl⟩
                  go_wp2_with fail
                  refine (rin _ _ _ _ _ H7.out).mono ?_; rintro e w' ⟨rfl, rfl⟩
                  go_wp2_with fail
                  go_ret
                  exact ⟨by rw [HN.out _ (by simp only [tests, List.mem_cons, true_or, or_true]) H7.out]; rfl, hb⟩
                | true =>
                  have H7 := hide h7
                  clear h7
                  cases h8 : (decide (0 ≤ c.ba) && decide (c.ba ≤ 10)) with
                  | false =>
                    have H8 := hide h8
                    clear h8
                    go_enter Tryd.func38, Tryd.ntmps38
                    go_wp2_with fail
                    refine (rin _ _ _ _ _ H0.out).mono ?_; rintro e w' ⟨rfl, rfl⟩
                    go_wp2_with fail
                    refine (rin _ _ _ _ _ H1.out).mono ?_; rintro e w' ⟨rfl, rfl⟩
                    go_wp2_with fail
                    refine (rin _ _ _ _ _ H2.out).mono ?_; rintro e w' ⟨rfl, rfl⟩
                    go_wp2_with fail
                    refine (rin _ _ _ _ _ H3.out).mono ?_; rintro e w' ⟨rfl, rfl⟩
                    go_wp2_with fail
                    refine (rin _ _ _ _ _ H4.out).mono ?_; rintro e w' ⟨rfl, rfl⟩
                    go_wp2_with fail
                    refine (rin _ _ _ _ _ H5.out).mono ?_; rintro e w' ⟨rfl, rfl⟩
                    go_wp2_with fail
                    refine (rin _ _ _ _ _ H6.out).mono ?_; rintro e w' ⟨rfl, rfl⟩
                    go_wp2_with fail
                    refine (rin _ _ _ _ _ H7.out).mono ?_; rintro e w' ⟨rfl, rfl⟩
                    go_wp2_with fail
                    refine (rin _ _ _ _ _ H8.out).mono ?_; rintro e w' ⟨rfl, rfl⟩
                    go_wp2_with fail
                    go_ret
                    exact ⟨by rw [HN.out _ (by simp only [tests, List.mem_cons, true_or, or_true]) H8.out]; rfl, hb⟩
                  | true =>
                    have H8 := hide h8
                    clear h8
                    go_enter Tryd.func38, Tryd.ntmps38
                    go_wp2_with fail
                    refine (rin _ _ _ _ _ H0.out).mono ?_; rintro e w' ⟨rfl, rfl⟩
                    go_wp2_with fail
                    refine (rin _ _ _ _ _ H1.out).mono ?_; rintro e w' ⟨rfl, rfl⟩
                    go_wp2_with fail
                    refine (rin _ _ _ _ _ H2.out).mono ?_; rintro e w' ⟨rfl, rfl⟩
                    go_wp2_with fail
                    refine (rin _ _ _ _ _ H3.out).mono ?_; rintro e w' ⟨rfl, rfl⟩
                    go_wp2_with fail
                    refine (rin _ _ _ _ _ H4.out).mono ?_; rintro e w' ⟨rfl, rfl⟩
                    go_wp2_with fail
                    refine (rin _ _ _ _ _ H5.out).mono ?_; rintro e w' ⟨rfl, rfl⟩
                    go_wp2_with fail
                    refine (rin _ _ _ _ _ H6.out).mono ?_; rintro e w' ⟨rfl, rfl⟩
                    go_wp2_with fail
                    refine (rin _ _ _ _ _ H7.out).mono ?_; rintro e w' ⟨rfl, rfl⟩
                    go_wp2_with fail
                    refine (rin _ _ _ _ _ H8.out).mono ?_; rintro e w' ⟨rfl, rfl⟩
                    go_wp2_with fail
                    go_ret
                    have hall : ∀ b ∈ tests c, b = true := by
                      simp only [tests, List.mem_cons, List.not_mem_nil, or_false, forall_eq_or_imp, forall_eq]
                      exact ⟨H0.out, H1.out, H2.out, H3.out, H4.out, H5.out, H6.out, H7.out, H8.out⟩
                    exact ⟨by rw [HT.out hall]; rfl, hb⟩

theorem names_cell (W : World) (k : Nat) (hk : k < 10) : (W.alloc (.cells ((List.range 10).map fun k => Value.string ⟨(nm k).toArray⟩).toArray 9)).cell? ⟨W.heap.size, k, none⟩ = some (.string ⟨(nm k).toArray⟩) := by
  refine cell_of (heap_at _ rfl) ?_
  simp [hk]
theorem rnames2 (W : World) : Calls Tryd.prog 64 #[] W fun e w' => ∃ B, e = .returned (.slice (some ⟨B, 0, none⟩) 10 10) ∧ (∀ k, k < 10 → w'.cell? ⟨B, k, none⟩ = some (.string ⟨(nm k).toArray⟩)) ∧ Below W.heap.size W w' :=
  (rnames_any W).mono fun e w' ⟨a, b⟩ => ⟨_, a, fun k hk => by rw [b]; exact names_cell W k hk, by rw [b]; exact below_alloc1 _ _⟩
def RtRel (w : World) (A : Nat) (c : Cf) (i s : Value) (wr : World) : Prop := ∃ k : Nat, i = .int .i64 (k : Int) ∧ k ≤ 10 ∧ s = .string ⟨(preT c k).toArray⟩ ∧ wr.heap[A]? = some (.cells ((List.range 10).map fun k => Value.int .i64 (c.num k)).toArray 3 (0, 0)) ∧ Below w.heap.size w wr
theorem num_cell {wr : World} {A : Nat} {c : Cf} (h : wr.heap[A]? = some (.cells ((List.range 10).map fun k => Value.int .i64 (c.num k)).toArray 3 (0, 0))) {k : Nat} (hk : k < 10) {n : Int} (hn : c.num k = n) : wr.cell? ⟨A, k, none⟩ = some (.int .i64 n) := by
  refine cell_of h ?_
  simp [hk, hn]
theorem rt_step {c : Cf} {k n : Nat} (hn : c.num k = (n : Int)) : ((((((⟨(preT c k).toArray⟩ : ByteArray) ++ ⟨(nm k).toArray⟩) ++ ⟨#[32]⟩) ++ ⟨(decDigits n).toArray⟩) ++ ⟨#[10]⟩)) = ⟨(preT c (k + 1)).toArray⟩ := by
  rw [preT_succ]
  apply ByteArray.ext
  simp [rowT, hn, itoa_nat]
set_option maxRecDepth 100000 in
set_option maxHeartbeats 8000000 in
theorem rtext_yes (c : Cf) (w : World) (hok : c.ok) : Calls Tryd.prog 37 #[c.val] w fun e w' => e = .returned (.tuple #[.string ⟨(textC c).toArray⟩, .int .i64 0]) ∧ Below w.heap.size w w' := by
  have hb := below_alloc1 w (.cells c.cells 24)
  have hc := (IsCf.of_block (w := w.alloc (.cells c.cells 24)) (heap_at _ rfl) : IsCf _ w.heap.size c)
  have he : errOf c = 0 := by unfold errOf; rw [if_pos hok]
  have HE := hide he
  clear he
  have HC := hide hc
  obtain ⟨c0, c1, c2, c3, c4, c5, c6, c7, c8, c9⟩ := hc
  simp only [Cf.val, Cf.cells] at c0 c1 c2 c3 c4 c5 c6 c7 c8 c9 hb HC ⊢
  go_enter Tryd.func37, Tryd.ntmps37
  go_wp2_with fail
  refine (rcheck_any c _).mono ?_; rintro e w1 ⟨rfl, hb1⟩
  have HC1 := HC.out.keep hb1
  have bel1 := below_after hb hb1
  clear HC c0 c1 c2 c3 c4 c5 c6 c7 c8 c9 hb hb1
  obtain ⟨c0, c1, c2, c3, c4, c5, c6, c7, c8, c9⟩ := HC1
  rw [HE.out]
  go_wp2_with fail
  refine (numbers_any c _).mono ?_; rintro e w2 ⟨A, rfl, hA, hN, hb2⟩
  have bel2 := below_after bel1 hb2
  clear c0 c1 c2 c3 c4 c5 c6 c7 c8 c9 bel1 hb2 hA
  go_wp2_with fail
  go_loopw [7, 6] (RtRel w A c) (fun i _ _ => (10 - intOf i).toNat)
  case atStart => exact ⟨0, rfl, by omega, by simp [preT], hN, bel2⟩
  case round =>
    clear hN bel2
    obtain ⟨k, rfl, hk, rfl, hN, hB⟩ := hrel
    have hl := preT_len hok k hk
    by_cases h10 : k < 10
    · obtain ⟨n, hn, hnb, hdl, _⟩ := Cf.num_nat hok k
      have hnl := (nm_free h10).2.2.2
      have hcell := num_cell hN h10 hn
      have hkl : (k : Int) < 10 := by omega
      have hk0 : (0 : Int) ≤ (k : Int) := by omega
      have q1 : ¬ 9223372036854775807 < (preT c k).length + (nm k).length := by omega
      have q2 : ¬ 9223372036854775807 < (preT c k).length + (nm k).length + 1 := by omega
      have q3 : ¬ 9223372036854775807 < (preT c k).length + (nm k).length + 1 + (decDigits n).length := by omega
      have q4 : ¬ 9223372036854775807 < (preT c k).length + (nm k).length + 1 + (decDigits n).length + 1 := by omega
      have HR := hide hN
      have HB := hide hB
      go_wp2_with fail
      have hcd := drew_cell hcell
      go_region_with (first | (go_at_call 64; refine (rnames2 _).mono ?_; rintro e w4 ⟨B, rfl, hB4, hb4⟩; have e1 := hB4 k h10; have e2 := keep_cell hb4 hcd; have e3 := keep_heap hb4 (drew_heap hN); have e4 := below_after (below_after hB (below_drew1 _)) hb4; clear hB4 hb4) | (go_at_call 65; refine (digs_any n n (Nat.le_refl _) (by omega) _).mono ?_; rintro e w5 ⟨rfl, rfl⟩))
      all_goals
        go_wp2_with fail
        go_roundw
        case rel =>
          refine ⟨k + 1, by go_num, by omega, ?_, e3, e4⟩
          rw [← rt_step hn]
        case measure => simp [intOf]; omega
    · obtain rfl : k = 10 := by omega
      go_wp2
      exact bodyPost_ret (v := .tuple #[.string ⟨(textC c).toArray⟩, .int .i64 0]) (by simp [results, Tryd.results37, go_sem, preT_all]) rfl ⟨rfl, hB⟩
set_option maxRecDepth 100000 in
theorem rtext_no (c : Cf) (w : World) (hno : ¬ c.ok) : Calls Tryd.prog 37 #[c.val] w fun e w' => e = .returned (.tuple #[.string ⟨#[]⟩, .int .i64 9]) ∧ Below w.heap.size w w' := by
  have hb := below_alloc1 w (.cells c.cells 24)
  have hc := (IsCf.of_block (w := w.alloc (.cells c.cells 24)) (heap_at _ rfl) : IsCf _ w.heap.size c)
  have he : errOf c = 9 := by unfold errOf; rw [if_neg hno]
  have HE := hide he
  clear he
  obtain ⟨c0, c1, c2, c3, c4, c5, c6, c7, c8, c9⟩ := hc
  simp only [Cf.val, Cf.cells] at c0 c1 c2 c3 c4 c5 c6 c7 c8 c9 hb ⊢
  go_enter Tryd.func37, Tryd.ntmps37
  go_wp2_with fail
  refine (rcheck_any c _).mono ?_; rintro e w1 ⟨rfl, hb1⟩
  have bel1 := below_after hb hb1
  rw [HE.out]
  go_wp2
  exact bodyPost_ret (v := .tuple #[.string ⟨#[]⟩, .int .i64 9]) (by simp [results, Tryd.results37, go_sem]) rfl ⟨rfl, bel1⟩
theorem check_bad (c : Cf) (w : World) (h : ¬ c.ok) : Calls Tryd.prog 16 #[c.val] w fun e w' => e = .returned (.int .i64 9) ∧ Below w.heap.size w w' := by
  have := check_any c w
  rwa [show errOf c = 9 from by unfold errOf; rw [if_neg h]] at this
theorem rcheck_eq (c : Cf) (v : Int) (w : World) (h : errOf c = v) : Calls Tryd.prog 38 #[c.val] w fun e w' => e = .returned (.int .i64 v) ∧ Below w.heap.size w w' := by
  rw [← h]; exact rcheck_any c w
theorem default_x (sv : Bool) (w : World) : Calls Tryd.prog 39 #[.bool sv] w fun e w' => e = .returned (.agg #[.bool sv, .int .i64 1200, .int .i64 12000, .int .i64 16777216, .int .i64 333000000, .int .i64 25000000, .int .i64 3, .int .i64 12000, .int .i64 256, .int .i64 6]) ∧ Below w.heap.size w w' := default_any sv w
theorem rdefault_x (sv : Bool) (w : World) : Calls Tryd.prog 40 #[.bool sv] w fun e w' => e = .returned (.agg #[.bool sv, .int .i64 1200, .int .i64 12000, .int .i64 16777216, .int .i64 333000000, .int .i64 25000000, .int .i64 3, .int .i64 12000, .int .i64 256, .int .i64 6]) ∧ Below w.heap.size w w' := rdefault_any sv w
def CfIn2 (w W : World) (b : Nat) (c : Cf) : Prop := IsCf W b c ∧ w.heap.size ≤ b ∧ Gd W ∧ Below w.heap.size w W
theorem CfIn2.keep {w W W' : World} {b : Nat} {c : Cf} (h : CfIn2 w W b c) (hb : Below W.heap.size W W') : CfIn2 w W' b c := ⟨h.1.keep hb, h.2.1, h.2.2.1.keep hb, below_after h.2.2.2 hb⟩
set_option maxRecDepth 100000 in
set_option maxHeartbeats 8000000 in
theorem confTells_any (c : Cf) (w : World) (g : Gd w) : Calls Tryd.prog 11 #[c.val] w fun e w' => e = .returned (.bool true) ∧ Below w.heap.size w w' := by
  have hb := below_alloc1 w (.cells c.cells 24)
  have hc := (IsCf.of_block (w := w.alloc (.cells c.cells 24)) (heap_at _ rfl) : IsCf _ w.heap.size c)
  have hA : CfIn2 w (w.alloc (.cells c.cells 24)) w.heap.size c := ⟨hc, Nat.le_refl _, g.keep hb, hb⟩
  have hQ := eq_same (Cf.dflt c.sv)
  obtain ⟨c0, c1, c2, c3, c4, c5, c6, c7, c8, c9⟩ := hc
  have HV : Hid (∀ x : Cf, x.val = .agg x.cells) := hide fun _ => rfl
  by_cases hok : c.ok
  · have HE : Hid (errOf c = 0) := hide (by unfold errOf; rw [if_pos hok])
    simp only [Cf.val, Cf.cells] at c0 c1 c2 c3 c4 c5 c6 c7 c8 c9 hA ⊢
    go_enter Tryd.func11, Tryd.ntmps11
    go_wp2_with fail
    refine (text_yes c _ hA.2.2.1 hok).mono ?_; rintro e w1 ⟨rfl, hb1⟩
    have hA1 := hA.keep hb1
    clear hA hb hb1 c0 c1 c2 c3 c4 c5 c6 c7 c8 c9
    obtain ⟨c0, c1, c2, c3, c4, c5, c6, c7, c8, c9⟩ := hA1.1
    go_wp2_with fail
    refine (rtext_yes c _ hok).mono ?_; rintro e w2 ⟨rfl, hb2⟩
    have hA2 := hA1.keep hb2
    clear hA1 hb2 c0 c1 c2 c3 c4 c5 c6 c7 c8 c9
    obtain ⟨c0, c1, c2, c3, c4, c5, c6, c7, c8, c9⟩ := hA2.1
    go_wp2_with fail
    go_region_held3 (fun w' => w'.cell? ⟨w.heap.size, 0, none⟩ = some (.bool c.sv) ∧ w'.cell? ⟨w.heap.size, 1, none⟩ = some (.int .i64 c.dg) ∧ w'.cell? ⟨w.heap.size, 2, none⟩ = some (.int .i64 c.fi) ∧ w'.cell? ⟨w.heap.size, 3, none⟩ = some (.int .i64 c.mo) ∧ w'.cell? ⟨w.heap.size, 4, none⟩ = some (.int .i64 c.rt) ∧ w'.cell? ⟨w.heap.size, 5, none⟩ = some (.int .i64 c.md) ∧ w'.cell? ⟨w.heap.size, 6, none⟩ = some (.int .i64 c.ex) ∧ w'.cell? ⟨w.heap.size, 7, none⟩ = some (.int .i64 c.bu) ∧ w'.cell? ⟨w.heap.size, 8, none⟩ = some (.int .i64 c.ro) ∧ w'.cell? ⟨w.heap.size, 9, none⟩ = some (.int .i64 c.ba)) (first | exact ⟨c0, c1, c2, c3, c4, c5, c6, c7, c8, c9⟩ | exact ⟨d0, d1, d2, d3, d4, d5, d6, d7, d8, d9⟩ | exact ⟨f0, f1, f2, f3, f4, f5, f6, f7, f8, f9⟩ | exact ⟨k0, k1, k2, k3, k4, k5, k6, k7, k8, k9⟩ | exact ⟨m0, m1, m2, m3, m4, m5, m6, m7, m8, m9⟩ | exact ⟨n0, n1, n2, n3, n4, n5, n6, n7, n8, n9⟩)
      (first | (go_at_call 16; refine (check_ok c _ hok).mono ?_; rintro e w3 ⟨rfl, hb3⟩; have hA3 := (hA2.keep (below_drew1 _)).keep hb3; obtain ⟨d0, d1, d2, d3, d4, d5, d6, d7, d8, d9⟩ := hA3.1) | (go_at_call 38; refine (rcheck_eq c 0 _ HE.out).mono ?_; rintro e w4 ⟨rfl, hb4⟩; have hA4 := hA3.keep hb4; obtain ⟨f0, f1, f2, f3, f4, f5, f6, f7, f8, f9⟩ := hA4.1) | (go_at_call 39; refine (default_x c.sv _).mono ?_; rintro e w5 ⟨rfl, hb5⟩; have hA5 := hA4.keep hb5; obtain ⟨k0, k1, k2, k3, k4, k5, k6, k7, k8, k9⟩ := hA5.1) | (go_at_call 40; refine (rdefault_x c.sv _).mono ?_; rintro e w6 ⟨rfl, hb6⟩; have hA6 := hA5.keep hb6; obtain ⟨m0, m1, m2, m3, m4, m5, m6, m7, m8, m9⟩ := hA6.1) | (go_at_call 18; refine (works20_any _ hA6.2.2.1).mono ?_; rintro e w7 ⟨rfl, hb7⟩; have hA7 := hA6.keep hb7; obtain ⟨n0, n1, n2, n3, n4, n5, n6, n7, n8, n9⟩ := hA7.1))
    go_wp2_with fail
    go_ret
    exact ⟨rfl, hA7.2.2.2⟩
  · have HE : Hid (errOf c = 9) := hide (by unfold errOf; rw [if_neg hok])
    simp only [Cf.val, Cf.cells] at c0 c1 c2 c3 c4 c5 c6 c7 c8 c9 hA ⊢
    go_enter Tryd.func11, Tryd.ntmps11
    go_wp2_with fail
    refine (text_no c _ hok).mono ?_; rintro e w1 ⟨rfl, hb1⟩
    have hA1 := hA.keep hb1
    clear hA hb hb1 c0 c1 c2 c3 c4 c5 c6 c7 c8 c9
    obtain ⟨c0, c1, c2, c3, c4, c5, c6, c7, c8, c9⟩ := hA1.1
    go_wp2_with fail
    refine (rtext_no c _ hok).mono ?_; rintro e w2 ⟨rfl, hb2⟩
    have hA2 := hA1.keep hb2
    clear hA1 hb2 c0 c1 c2 c3 c4 c5 c6 c7 c8 c9
    obtain ⟨c0, c1, c2, c3, c4, c5, c6, c7, c8, c9⟩ := hA2.1
    go_wp2_with fail
    go_region_held3 (fun w' => w'.cell? ⟨w.heap.size, 0, none⟩ = some (.bool c.sv) ∧ w'.cell? ⟨w.heap.size, 1, none⟩ = some (.int .i64 c.dg) ∧ w'.cell? ⟨w.heap.size, 2, none⟩ = some (.int .i64 c.fi) ∧ w'.cell? ⟨w.heap.size, 3, none⟩ = some (.int .i64 c.mo) ∧ w'.cell? ⟨w.heap.size, 4, none⟩ = some (.int .i64 c.rt) ∧ w'.cell? ⟨w.heap.size, 5, none⟩ = some (.int .i64 c.md) ∧ w'.cell? ⟨w.heap.size, 6, none⟩ = some (.int .i64 c.ex) ∧ w'.cell? ⟨w.heap.size, 7, none⟩ = some (.int .i64 c.bu) ∧ w'.cell? ⟨w.heap.size, 8, none⟩ = some (.int .i64 c.ro) ∧ w'.cell? ⟨w.heap.size, 9, none⟩ = some (.int .i64 c.ba)) (first | exact ⟨c0, c1, c2, c3, c4, c5, c6, c7, c8, c9⟩ | exact ⟨d0, d1, d2, d3, d4, d5, d6, d7, d8, d9⟩ | exact ⟨f0, f1, f2, f3, f4, f5, f6, f7, f8, f9⟩ | exact ⟨k0, k1, k2, k3, k4, k5, k6, k7, k8, k9⟩ | exact ⟨m0, m1, m2, m3, m4, m5, m6, m7, m8, m9⟩ | exact ⟨n0, n1, n2, n3, n4, n5, n6, n7, n8, n9⟩)
      (first | (go_at_call 16; refine (check_bad c _ hok).mono ?_; rintro e w3 ⟨rfl, hb3⟩; have hA3 := (hA2.keep (below_drew1 _)).keep hb3; obtain ⟨d0, d1, d2, d3, d4, d5, d6, d7, d8, d9⟩ := hA3.1) | (go_at_call 38; refine (rcheck_eq c 9 _ HE.out).mono ?_; rintro e w4 ⟨rfl, hb4⟩; have hA4 := hA3.keep hb4; obtain ⟨f0, f1, f2, f3, f4, f5, f6, f7, f8, f9⟩ := hA4.1) | (go_at_call 39; refine (default_x c.sv _).mono ?_; rintro e w5 ⟨rfl, hb5⟩; have hA5 := hA4.keep hb5; obtain ⟨k0, k1, k2, k3, k4, k5, k6, k7, k8, k9⟩ := hA5.1) | (go_at_call 40; refine (rdefault_x c.sv _).mono ?_; rintro e w6 ⟨rfl, hb6⟩; have hA6 := hA5.keep hb6; obtain ⟨m0, m1, m2, m3, m4, m5, m6, m7, m8, m9⟩ := hA6.1) | (go_at_call 18; refine (works20_any _ hA6.2.2.1).mono ?_; rintro e w7 ⟨rfl, hb7⟩; have hA7 := hA6.keep hb7; obtain ⟨n0, n1, n2, n3, n4, n5, n6, n7, n8, n9⟩ := hA7.1))
    go_wp2_with fail
    go_ret
    exact ⟨rfl, hA7.2.2.2⟩
end Go.Proofs.YtjhkgoppopfoaaaDoor
