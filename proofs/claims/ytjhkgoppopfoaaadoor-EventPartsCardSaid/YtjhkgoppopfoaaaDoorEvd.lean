/-
  The deferred closure of event.Parse: its two contracts.
-/
import Derived.Test.YtjhkgoppopfoaaaDoorEvl
import Derived.Tactics
import Derived.Tactics2
import Derived.Defers
import Derived.Recover
import Derived.Laws.Pointers
namespace Go.Proofs.YtjhkgoppopfoaaaDoor
open Go.RowKit Go.Lib
set_option linter.unusedVariables false
set_option linter.unusedSimpArgs false

theorem catch_idle (p2 p3 p4 : Addr) (w : World) :
    CallsD Tryd.prog 53 #[.pointer (some p2), .pointer (some p3), .pointer (some p4)] .returning w fun e u' w' => e = .returned (.tuple #[]) ∧ u' = .returning ∧ w' = w := by
  refine callsD_of_wpS Tryd.func53 rfl fun c₀ cs hu => ?_
  apply wpS_seq
  apply wpS_region
  simp [wpOpsS, go_sem, recoverD, hu, Tryd.ntmps53, Exit.thenS]
  refine wpS_of_wp ?_
  go_wp2_with fail
  cases c₀
  simp_all [bodyPostS, results, Tryd.results53]
theorem rep13 : (Array.replicate 13 undef : Array Value) = #[undef, undef, undef, undef, undef, undef, undef, undef, undef, undef, undef, undef, undef] := rfl
set_option maxRecDepth 100000 in
set_option maxHeartbeats 4000000 in
theorem catch_broken (b2 b3 b4 : Nat) (n er : Int) (x2 x3 x4 : Value) (older : List PanicEntry) (w : World) (h2 : w.heap[b2]? = some (.cells #[x2] 41 (0, 0))) (h3 : w.heap[b3]? = some (.cells #[x3] 3 (0, 0))) (h4 : w.heap[b4]? = some (.cells #[x4] 28 (0, 0))) :
    CallsD Tryd.prog 53 #[.pointer (some ⟨b2, 0, none⟩), .pointer (some ⟨b3, 0, none⟩), .pointer (some ⟨b4, 0, none⟩)] (.panicking ({ v := .iface 95 (.agg #[.int .i64 n, .int .i64 er]), recovered := false } :: older)) w fun e u' w' =>
      e = .returned (.tuple #[]) ∧ u' = .panicking ({ v := .iface 95 (.agg #[.int .i64 n, .int .i64 er]), recovered := true } :: older) ∧ w' = ((((w.setCell ⟨b2, 0, none⟩ (.slice none 0 0)).setCell ⟨b3, 0, none⟩ (.int .i64 n)).setCell ⟨b4, 0, none⟩ (.int .i64 er)).alloc (.cells #[.int .i64 n, .int .i64 er] 95)).drew := by
  have k2 := keep_heap (below_alloc1 w (.cells #[.int .i64 n, .int .i64 er] 95)) h2
  have k3 := keep_heap (below_alloc1 w (.cells #[.int .i64 n, .int .i64 er] 95)) h3
  have k4 := keep_heap (below_alloc1 w (.cells #[.int .i64 n, .int .i64 er] 95)) h4
  have c2 := ecell (i := 0) k2 rfl
  have c3 := ecell (i := 0) k3 rfl
  have c4 := ecell (i := 0) k4 rfl
  have f2 := efree k2 0
  have f3 := efree k3 0
  have f4 := efree k4 0
  have l2 := lt_of_heap h2
  have l3 := lt_of_heap h3
  have l4 := lt_of_heap h4
  have d2 := ecell (i := 0) h2 rfl
  have d3 := ecell (i := 0) h3 rfl
  have d4 := ecell (i := 0) h4 rfl
  have g2 := efree h2 0
  have g3 := efree h3 0
  have g4 := efree h4 0
  have n23 : b2 ≠ b3 := by rintro rfl; rw [h2] at h3; simp at h3
  have n24 : b2 ≠ b4 := by rintro rfl; rw [h2] at h4; simp at h4
  have n34 : b3 ≠ b4 := by rintro rfl; rw [h3] at h4; simp at h4
  have n32 : b3 ≠ b2 := fun h => n23 h.symm
  have n42 : b4 ≠ b2 := fun h => n24 h.symm
  have n43 : b4 ≠ b3 := fun h => n34 h.symm
  have m2 : w.heap.size ≠ b2 := by omega
  have m3 : w.heap.size ≠ b3 := by omega
  have m4 : w.heap.size ≠ b4 := by omega
  have z2 : b2 ≠ w.heap.size := by omega
  have z3 : b3 ≠ w.heap.size := by omega
  have z4 : b4 ≠ w.heap.size := by omega
  clear h2 h3 h4 k2 k3 k4
  have hta : ∀ w, (Instr.typeAssert (.iface 95 (.agg #[.int .i64 n, .int .i64 er])) 20 95 true).run Tryd.prog w = .ok (.tuple #[.agg #[.int .i64 n, .int .i64 er], .bool true]) w := fun _ => by kernel_rfl
  refine callsD_of_wpS Tryd.func53 rfl fun c₀ cs hu => ?_
  apply wpS_seq
  apply wpS_region
  simp [wpOpsS, go_sem, recoverD, hu, Tryd.ntmps53, Exit.thenS]
  refine wpS_of_wp ?_
  rw [rep13]
  simp only [List.setIfInBounds_toArray, List.set_cons_succ, List.set_cons_zero, List.append_toArray, List.cons_append, List.nil_append]
  go_wp2_with fail
  go_region
  go_wp2_with fail
  cases c₀
  simp_all [bodyPostS, results, Tryd.results53]
end Go.Proofs.YtjhkgoppopfoaaaDoor
