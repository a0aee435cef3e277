/-
  The document's Check for events.
-/
import Derived.Test.YtjhkgoppopfoaaaDoorEvx
namespace Go.Proofs.YtjhkgoppopfoaaaDoor
open Go.RowKit Go.Lib
set_option linter.unusedVariables false
set_option linter.unusedSimpArgs false

set_option maxRecDepth 100000 in
theorem rcheck_none (e : Ev) (w : World) (hk : ¬ (1 ≤ e.k ∧ e.k ≤ 6)) : Calls Tryd.prog 33 #[e.val] w fun x w' => x = .returned (.int .i64 2) ∧ Below w.heap.size w w' := by
  have hp : EvAt (w.alloc (.cells e.cells 52)) w.heap.size e := heap_at _ rfl
  have hb := below_alloc1 w (.cells e.cells 52)
  have c0 := hp.c0
  have h1 : (e.k == 1) = false := by simp; omega
  have h2 : (e.k == 2) = false := by simp; omega
  have h3 : (e.k == 3) = false := by simp; omega
  have h4 : (e.k == 4) = false := by simp; omega
  have h5 : (e.k == 5) = false := by simp; omega
  have h6 : (e.k == 6) = false := by simp; omega
  clear hk
  simp only [Ev.val, Ev.cells] at hp hb c0 ⊢
  go_enter Tryd.func33, Tryd.ntmps33
  go_wp2_with fail
  go_ret
  exact ⟨rfl, hb⟩
set_option maxRecDepth 100000 in
set_option maxHeartbeats 4000000 in
theorem rcheck_k1 (sp nu n : Int) (b0 b1 b2 : Bool) (w : World) (h0 : (decide (0 ≤ sp) && decide (sp ≤ 2)) = b0) (h1 : (decide (0 ≤ nu) && decide (nu ≤ 9007199254740991)) = b1) (h2 : (decide (1 ≤ n) && decide (n ≤ 65535)) = b2) : Calls Tryd.prog 33 #[(⟨1, sp, nu, n⟩ : Ev).val] w fun x w' => x = .returned (.int .i64 (if b0 && b1 && b2 then 0 else 2)) ∧ Below w.heap.size w w' := by
  have hp : EvAt (w.alloc (.cells (⟨1, sp, nu, n⟩ : Ev).cells 52)) w.heap.size ⟨1, sp, nu, n⟩ := heap_at _ rfl
  have hb := below_alloc1 w (.cells (⟨1, sp, nu, n⟩ : Ev).cells 52)
  have c0 := hp.c0
  have c1 := hp.c1
  have c2 := hp.c2
  have c3 := hp.c3
  simp only [Ev.val, Ev.cells] at hp hb c0 c1 c2 c3 ⊢
  have H0 := hide h0
  clear h0
  have H1 := hide h1
  clear h1
  have H2 := hide h2
  clear h2
  cases b0 with
  | false =>
    go_enter Tryd.func33, Tryd.ntmps33
    go_wp2_with fail
    refine (ein _ _ _ _ _ H0.out).mono ?_; rintro x w' ⟨rfl, rfl⟩
    go_wp2_with fail
    go_ret
    exact ⟨rfl, hb⟩
  | true =>
    cases b1 with
    | false =>
      go_enter Tryd.func33, Tryd.ntmps33
      go_wp2_with fail
      refine (ein _ _ _ _ _ H0.out).mono ?_; rintro x w' ⟨rfl, rfl⟩
      go_wp2_with fail
      refine (ein _ _ _ _ _ H1.out).mono ?_; rintro x w' ⟨rfl, rfl⟩
      go_wp2_with fail
      go_ret
      exact ⟨rfl, hb⟩
    | true =>
      cases b2 with
      | false =>
        go_enter Tryd.func33, Tryd.ntmps33
        go_wp2_with fail
        refine (ein _ _ _ _ _ H0.out).mono ?_; rintro x w' ⟨rfl, rfl⟩
        go_wp2_with fail
        refine (ein _ _ _ _ _ H1.out).mono ?_; rintro x w' ⟨rfl, rfl⟩
        go_wp2_with fail
        refine (ein _ _ _ _ _ H2.out).mono ?_; rintro x w' ⟨rfl, rfl⟩
        go_wp2_with fail
        go_ret
        exact ⟨rfl, hb⟩
      | true =>
        go_enter Tryd.func33, Tryd.ntmps33
        go_wp2_with fail
        refine (ein _ _ _ _ _ H0.out).mono ?_; rintro x w' ⟨rfl, rfl⟩
        go_wp2_with fail
        refine (ein _ _ _ _ _ H1.out).mono ?_; rintro x w' ⟨rfl, rfl⟩
        go_wp2_with fail
        refine (ein _ _ _ _ _ H2.out).mono ?_; rintro x w' ⟨rfl, rfl⟩
        go_wp2_with fail
        go_ret
        exact ⟨rfl, hb⟩
set_option maxRecDepth 100000 in
set_option maxHeartbeats 4000000 in
theorem rcheck_k2 (sp nu n : Int) (b0 b1 b2 : Bool) (w : World) (h0 : (decide (0 ≤ sp) && decide (sp ≤ 2)) = b0) (h1 : (decide (0 ≤ nu) && decide (nu ≤ 9007199254740991)) = b1) (h2 : (decide (1 ≤ n) && decide (n ≤ 65535)) = b2) : Calls Tryd.prog 33 #[(⟨2, sp, nu, n⟩ : Ev).val] w fun x w' => x = .returned (.int .i64 (if b0 && b1 && b2 then 0 else 2)) ∧ Below w.heap.size w w' := by
  have hp : EvAt (w.alloc (.cells (⟨2, sp, nu, n⟩ : Ev).cells 52)) w.heap.size ⟨2, sp, nu, n⟩ := heap_at _ rfl
  have hb := below_alloc1 w (.cells (⟨2, sp, nu, n⟩ : Ev).cells 52)
  have c0 := hp.c0
  have c1 := hp.c1
  have c2 := hp.c2
  have c3 := hp.c3
  simp only [Ev.val, Ev.cells] at hp hb c0 c1 c2 c3 ⊢
  have H0 := hide h0
  clear h0
  have H1 := hide h1
  clear h1
  have H2 := hide h2
  clear h2
  cases b0 with
  | false =>
    go_enter Tryd.func33, Tryd.ntmps33
    go_wp2_with fail
    refine (ein _ _ _ _ _ H0.out).mono ?_; rintro x w' ⟨rfl, rfl⟩
    go_wp2_with fail
    go_ret
    exact ⟨rfl, hb⟩
  | true =>
    cases b1 with
    | false =>
      go_enter Tryd.func33, Tryd.ntmps33
      go_wp2_with fail
      refine (ein _ _ _ _ _ H0.out).mono ?_; rintro x w' ⟨rfl, rfl⟩
      go_wp2_with fail
      refine (ein _ _ _ _ _ H1.out).mono ?_; rintro x w' ⟨rfl, rfl⟩
      go_wp2_with fail
      go_ret
      exact ⟨rfl, hb⟩
    | true =>
      cases b2 with
      | false =>
        go_enter Tryd.func33, Tryd.ntmps33
        go_wp2_with fail
        refine (ein _ _ _ _ _ H0.out).mono ?_; rintro x w' ⟨rfl, rfl⟩
        go_wp2_with fail
        refine (ein _ _ _ _ _ H1.out).mono ?_; rintro x w' ⟨rfl, rfl⟩
        go_wp2_with fail
        refine (ein _ _ _ _ _ H2.out).mono ?_; rintro x w' ⟨rfl, rfl⟩
        go_wp2_with fail
        go_ret
        exact ⟨rfl, hb⟩
      | true =>
        go_enter Tryd.func33, Tryd.ntmps33
        go_wp2_with fail
        refine (ein _ _ _ _ _ H0.out).mono ?_; rintro x w' ⟨rfl, rfl⟩
        go_wp2_with fail
        refine (ein _ _ _ _ _ H1.out).mono ?_; rintro x w' ⟨rfl, rfl⟩
        go_wp2_with fail
        refine (ein _ _ _ _ _ H2.out).mono ?_; rintro x w' ⟨rfl, rfl⟩
        go_wp2_with fail
        go_ret
        exact ⟨rfl, hb⟩
set_option maxRecDepth 100000 in
set_option maxHeartbeats 4000000 in
theorem rcheck_k3 (sp nu n : Int) (b0 b1 b2 : Bool) (w : World) (h0 : (decide (0 ≤ sp) && decide (sp ≤ 2)) = b0) (h1 : (nu == 0) = b1) (h2 : (decide (1 ≤ n) && decide (n ≤ 2)) = b2) : Calls Tryd.prog 33 #[(⟨3, sp, nu, n⟩ : Ev).val] w fun x w' => x = .returned (.int .i64 (if b0 && b1 && b2 then 0 else 2)) ∧ Below w.heap.size w w' := by
  have hp : EvAt (w.alloc (.cells (⟨3, sp, nu, n⟩ : Ev).cells 52)) w.heap.size ⟨3, sp, nu, n⟩ := heap_at _ rfl
  have hb := below_alloc1 w (.cells (⟨3, sp, nu, n⟩ : Ev).cells 52)
  have c0 := hp.c0
  have c1 := hp.c1
  have c2 := hp.c2
  have c3 := hp.c3
  simp only [Ev.val, Ev.cells] at hp hb c0 c1 c2 c3 ⊢
  have H0 := hide h0
  clear h0
  have H2 := hide h2
  clear h2
  cases b0 with
  | false =>
    go_enter Tryd.func33, Tryd.ntmps33
    go_wp2_with fail
    refine (ein _ _ _ _ _ H0.out).mono ?_; rintro x w' ⟨rfl, rfl⟩
    go_wp2_with fail
    go_ret
    exact ⟨rfl, hb⟩
  | true =>
    cases b1 with
    | false =>
      go_enter Tryd.func33, Tryd.ntmps33
      go_wp2_with fail
      refine (ein _ _ _ _ _ H0.out).mono ?_; rintro x w' ⟨rfl, rfl⟩
      go_wp2_with fail
      go_ret
      exact ⟨rfl, hb⟩
    | true =>
      cases b2 with
      | false =>
        go_enter Tryd.func33, Tryd.ntmps33
        go_wp2_with fail
        refine (ein _ _ _ _ _ H0.out).mono ?_; rintro x w' ⟨rfl, rfl⟩
        go_wp2_with fail
        refine (ein _ _ _ _ _ H2.out).mono ?_; rintro x w' ⟨rfl, rfl⟩
        go_wp2_with fail
        go_ret
        exact ⟨rfl, hb⟩
      | true =>
        go_enter Tryd.func33, Tryd.ntmps33
        go_wp2_with fail
        refine (ein _ _ _ _ _ H0.out).mono ?_; rintro x w' ⟨rfl, rfl⟩
        go_wp2_with fail
        refine (ein _ _ _ _ _ H2.out).mono ?_; rintro x w' ⟨rfl, rfl⟩
        go_wp2_with fail
        go_ret
        exact ⟨rfl, hb⟩
set_option maxRecDepth 100000 in
set_option maxHeartbeats 4000000 in
theorem rcheck_k4 (sp nu n : Int) (b0 b1 b2 : Bool) (w : World) (h0 : (sp == 0) = b0) (h1 : (nu == 0) = b1) (h2 : (decide (2400 ≤ n) && decide (n ≤ 1099511627776)) = b2) : Calls Tryd.prog 33 #[(⟨4, sp, nu, n⟩ : Ev).val] w fun x w' => x = .returned (.int .i64 (if b0 && b1 && b2 then 0 else 2)) ∧ Below w.heap.size w w' := by
  have hp : EvAt (w.alloc (.cells (⟨4, sp, nu, n⟩ : Ev).cells 52)) w.heap.size ⟨4, sp, nu, n⟩ := heap_at _ rfl
  have hb := below_alloc1 w (.cells (⟨4, sp, nu, n⟩ : Ev).cells 52)
  have c0 := hp.c0
  have c1 := hp.c1
  have c2 := hp.c2
  have c3 := hp.c3
  simp only [Ev.val, Ev.cells] at hp hb c0 c1 c2 c3 ⊢
  have H2 := hide h2
  clear h2
  cases b0 with
  | false =>
    go_enter Tryd.func33, Tryd.ntmps33
    go_wp2_with fail
    go_ret
    exact ⟨rfl, hb⟩
  | true =>
    cases b1 with
    | false =>
      go_enter Tryd.func33, Tryd.ntmps33
      go_wp2_with fail
      go_ret
      exact ⟨rfl, hb⟩
    | true =>
      cases b2 with
      | false =>
        go_enter Tryd.func33, Tryd.ntmps33
        go_wp2_with fail
        refine (ein _ _ _ _ _ H2.out).mono ?_; rintro x w' ⟨rfl, rfl⟩
        go_wp2_with fail
        go_ret
        exact ⟨rfl, hb⟩
      | true =>
        go_enter Tryd.func33, Tryd.ntmps33
        go_wp2_with fail
        refine (ein _ _ _ _ _ H2.out).mono ?_; rintro x w' ⟨rfl, rfl⟩
        go_wp2_with fail
        go_ret
        exact ⟨rfl, hb⟩
set_option maxRecDepth 100000 in
set_option maxHeartbeats 4000000 in
theorem rcheck_k5 (sp nu n : Int) (b0 b1 b2 : Bool) (w : World) (h0 : (decide (0 ≤ sp) && decide (sp ≤ 2)) = b0) (h1 : (nu == 0) = b1) (h2 : (n == 0) = b2) : Calls Tryd.prog 33 #[(⟨5, sp, nu, n⟩ : Ev).val] w fun x w' => x = .returned (.int .i64 (if b0 && b1 && b2 then 0 else 2)) ∧ Below w.heap.size w w' := by
  have hp : EvAt (w.alloc (.cells (⟨5, sp, nu, n⟩ : Ev).cells 52)) w.heap.size ⟨5, sp, nu, n⟩ := heap_at _ rfl
  have hb := below_alloc1 w (.cells (⟨5, sp, nu, n⟩ : Ev).cells 52)
  have c0 := hp.c0
  have c1 := hp.c1
  have c2 := hp.c2
  have c3 := hp.c3
  simp only [Ev.val, Ev.cells] at hp hb c0 c1 c2 c3 ⊢
  have H0 := hide h0
  clear h0
  cases b0 with
  | false =>
    go_enter Tryd.func33, Tryd.ntmps33
    go_wp2_with fail
    refine (ein _ _ _ _ _ H0.out).mono ?_; rintro x w' ⟨rfl, rfl⟩
    go_wp2_with fail
    go_ret
    exact ⟨rfl, hb⟩
  | true =>
    cases b1 with
    | false =>
      go_enter Tryd.func33, Tryd.ntmps33
      go_wp2_with fail
      refine (ein _ _ _ _ _ H0.out).mono ?_; rintro x w' ⟨rfl, rfl⟩
      go_wp2_with fail
      go_ret
      exact ⟨rfl, hb⟩
    | true =>
      cases b2 with
      | false =>
        go_enter Tryd.func33, Tryd.ntmps33
        go_wp2_with fail
        refine (ein _ _ _ _ _ H0.out).mono ?_; rintro x w' ⟨rfl, rfl⟩
        go_wp2_with fail
        go_ret
        exact ⟨rfl, hb⟩
      | true =>
        go_enter Tryd.func33, Tryd.ntmps33
        go_wp2_with fail
        refine (ein _ _ _ _ _ H0.out).mono ?_; rintro x w' ⟨rfl, rfl⟩
        go_wp2_with fail
        go_ret
        exact ⟨rfl, hb⟩
set_option maxRecDepth 100000 in
set_option maxHeartbeats 4000000 in
theorem rcheck_k6 (sp nu n : Int) (b0 b1 b2 : Bool) (w : World) (h0 : (sp == 0) = b0) (h1 : (nu == 0) = b1) (h2 : (decide (1 ≤ n) && decide (n ≤ 999)) = b2) : Calls Tryd.prog 33 #[(⟨6, sp, nu, n⟩ : Ev).val] w fun x w' => x = .returned (.int .i64 (if b0 && b1 && b2 then 0 else 2)) ∧ Below w.heap.size w w' := by
  have hp : EvAt (w.alloc (.cells (⟨6, sp, nu, n⟩ : Ev).cells 52)) w.heap.size ⟨6, sp, nu, n⟩ := heap_at _ rfl
  have hb := below_alloc1 w (.cells (⟨6, sp, nu, n⟩ : Ev).cells 52)
  have c0 := hp.c0
  have c1 := hp.c1
  have c2 := hp.c2
  have c3 := hp.c3
  simp only [Ev.val, Ev.cells] at hp hb c0 c1 c2 c3 ⊢
  have H2 := hide h2
  clear h2
  cases b0 with
  | false =>
    go_enter Tryd.func33, Tryd.ntmps33
    go_wp2_with fail
    go_ret
    exact ⟨rfl, hb⟩
  | true =>
    cases b1 with
    | false =>
      go_enter Tryd.func33, Tryd.ntmps33
      go_wp2_with fail
      go_ret
      exact ⟨rfl, hb⟩
    | true =>
      cases b2 with
      | false =>
        go_enter Tryd.func33, Tryd.ntmps33
        go_wp2_with fail
        refine (ein _ _ _ _ _ H2.out).mono ?_; rintro x w' ⟨rfl, rfl⟩
        go_wp2_with fail
        go_ret
        exact ⟨rfl, hb⟩
      | true =>
        go_enter Tryd.func33, Tryd.ntmps33
        go_wp2_with fail
        refine (ein _ _ _ _ _ H2.out).mono ?_; rintro x w' ⟨rfl, rfl⟩
        go_wp2_with fail
        go_ret
        exact ⟨rfl, hb⟩
end Go.Proofs.YtjhkgoppopfoaaaDoor
