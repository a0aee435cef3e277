/-
  The contracts of Bring, made and with.
-/
import Derived.Test.YtjhkgoppopfoaaaDoorGood
import Derived.StillTailTactics
import Derived.Deep.RegionHeld3
namespace Go.Proofs.YtjhkgoppopfoaaaDoor
open Go.RowKit Go.Lib
set_option linter.unusedVariables false
set_option linter.unusedSimpArgs false
def brI (i n : Int) : Int := i % n
theorem brI_in (i n : Int) (hn : 0 < n) : 0 ≤ brI i n ∧ brI i n < n := ⟨Int.emod_nonneg i (by omega), Int.emod_lt_of_pos i hn⟩
theorem bring_eq (i n v : Int) (w : World) (i0 : -9223372036854775808 ≤ i) (i1 : i ≤ 9223372036854775807) (n0 : 0 < n) (n1 : n ≤ 9223372036854775807) (h : brI i n = v) :
    Calls Tryd.prog 15 #[.int .i64 i, .int .i64 n] w fun e w' => e = .returned (.int .i64 v) ∧ w = w' := by
  unfold brI at h
  subst h
  have hn : ¬ n = 0 := by omega
  have m0 := Int.emod_nonneg i hn
  have m1 := Int.emod_lt_of_pos i n0
  have he : i.tmod n = i % n - (if 0 ≤ i ∨ n ∣ i then 0 else (n.natAbs : Int)) := by
    have := @Int.tmod_eq_emod i n
    rw [this]; split <;> simp
  have hd' : ¬ (n ∣ i) → 0 < i % n := fun h => by
    have : i % n ≠ 0 := fun e => h (Int.dvd_of_emod_eq_zero e)
    omega
  have hna : (n.natAbs : Int) = n := by omega
  rw [hna] at he
  by_cases hc : 0 ≤ i ∨ n ∣ i
  · rw [if_pos hc] at he
    have hlt : ¬ i % n < 0 := by omega
    clear hd' hna
    simp only [Int.sub_zero] at he
    clear hc
    go_enter Tryd.func15, Tryd.ntmps15
    go_wp2
    go_ret
    exact ⟨rfl, rfl⟩
  · rw [if_neg hc] at he
    have hp : 0 < i % n := hd' (fun h => hc (Or.inr h))
    have hlt : i % n - n < 0 := by omega
    have hs : i % n - n + n = i % n := by omega
    clear hd' hna hc
    go_enter Tryd.func15, Tryd.ntmps15
    go_wp2
    go_ret
    exact ⟨rfl, rfl⟩
def IsI (x : Int) : Prop := -9223372036854775808 ≤ x ∧ x ≤ 9223372036854775807
theorem br (i n : Int) (w : World) (hi : IsI i) (n0 : 0 < n) (n1 : n ≤ 9223372036854775807) : Calls Tryd.prog 15 #[.int .i64 i, .int .i64 n] w fun e w' => e = .returned (.int .i64 (brI i n)) ∧ w' = w :=
  (bring_eq i n _ w hi.1 hi.2 n0 n1 rfl).mono fun e w' ⟨a, b⟩ => ⟨a, b.symm⟩
/-- Nine numbers. -/
structure L9 where
  a0 : Int
  a1 : Int
  a2 : Int
  a3 : Int
  a4 : Int
  a5 : Int
  a6 : Int
  a7 : Int
  a8 : Int
def L9.val (l : L9) : Value := .agg #[.int .i64 l.a0, .int .i64 l.a1, .int .i64 l.a2, .int .i64 l.a3, .int .i64 l.a4, .int .i64 l.a5, .int .i64 l.a6, .int .i64 l.a7, .int .i64 l.a8]
def L9.wf (l : L9) : Prop := IsI l.a0 ∧ IsI l.a1 ∧ IsI l.a2 ∧ IsI l.a3 ∧ IsI l.a4 ∧ IsI l.a5 ∧ IsI l.a6 ∧ IsI l.a7 ∧ IsI l.a8
def L9.d (l : L9) : Int := 1200 + brI l.a0 64328
def L9.m (l : L9) : Int := 2 * l.d + brI l.a1 (1099511627776 - 2 * l.d + 1)
def mk (l : L9) (sv : Bool) : Cf := ⟨sv, l.d, 2 * l.d + brI l.a2 (l.m - 2 * l.d + 1), l.m, 1000000 + brI l.a3 59999000001, brI l.a4 16384000001, brI l.a5 21, l.d + brI l.a6 (1073741824 - l.d + 1), 2 + brI l.a7 255, brI l.a8 11⟩
theorem L9.d_in (l : L9) : 1200 ≤ l.d ∧ l.d ≤ 65527 := by
  have := brI_in l.a0 64328 (by decide)
  unfold L9.d; omega
theorem L9.m_in (l : L9) : 2 * l.d ≤ l.m ∧ l.m ≤ 1099511627776 := by
  have h := l.d_in
  have := brI_in l.a1 (1099511627776 - 2 * l.d + 1) (by omega)
  unfold L9.m; omega
theorem mk_ok (l : L9) (sv : Bool) : (mk l sv).ok := by
  have h := l.d_in
  have hm := l.m_in
  have h2 := brI_in l.a2 (l.m - 2 * l.d + 1) (by omega)
  have h3 := brI_in l.a3 59999000001 (by omega)
  have h4 := brI_in l.a4 16384000001 (by omega)
  have h5 := brI_in l.a5 21 (by omega)
  have h6 := brI_in l.a6 (1073741824 - l.d + 1) (by omega)
  have h7 := brI_in l.a7 255 (by omega)
  have h8 := brI_in l.a8 11 (by omega)
  unfold Cf.ok mk
  simp only
  omega
theorem frozen_at {w : World} {b : Nat} {cs : Array Value} {t : TypeId} (h : w.heap[b]? = some (.cells cs t (0, 0))) (i : Nat) : w.frozen? ⟨b, i, none⟩ = false := by simp [World.frozen?, h]
/-- A setting of which one number is another one. -/
def Cf.with (c : Cf) (k n : Int) : Cf := { c with fi := if k = 0 then n else c.fi, mo := if k = 1 then n else c.mo, rt := if k = 2 then n else c.rt, md := if k = 3 then n else c.md, ex := if k = 4 then n else c.ex, bu := if k = 5 then n else c.bu, ro := if k = 6 then n else c.ro, ba := if k = 7 then n else c.ba }
theorem cell_at {w : World} {b : Nat} {cs : Array Value} {t : TypeId} {f : Nat × Nat} {v : Value} (h : w.heap[b]? = some (.cells cs t f)) (i : Nat) (hi : cs[i]? = some v) : w.cell? ⟨b, i, none⟩ = some v := by simp only [World.cell?, h]; exact hi
set_option maxRecDepth 100000 in
set_option maxHeartbeats 4000000 in
theorem made_any (l : L9) (sv : Bool) (w : World) (hl : l.wf) : Calls Tryd.prog 14 #[l.val, .bool sv] w fun e w' => e = .returned (mk l sv).val ∧ Below w.heap.size w w' := by
  obtain ⟨p0, p1, p2, p3, p4, p5, p6, p7, p8⟩ := hl
  obtain ⟨a0, a1, a2, a3, a4, a5, a6, a7, a8⟩ := l
  simp only at p0 p1 p2 p3 p4 p5 p6 p7 p8
  have hd := L9.d_in ⟨a0, a1, a2, a3, a4, a5, a6, a7, a8⟩
  have hm := L9.m_in ⟨a0, a1, a2, a3, a4, a5, a6, a7, a8⟩
  have ed : L9.d ⟨a0, a1, a2, a3, a4, a5, a6, a7, a8⟩ = 1200 + brI a0 64328 := rfl
  have em : L9.m ⟨a0, a1, a2, a3, a4, a5, a6, a7, a8⟩ = 2 * L9.d ⟨a0, a1, a2, a3, a4, a5, a6, a7, a8⟩ + brI a1 (1099511627776 - 2 * L9.d ⟨a0, a1, a2, a3, a4, a5, a6, a7, a8⟩ + 1) := rfl
  have hb0 := brI_in a0 64328 (by decide)
  have hv : (mk ⟨a0, a1, a2, a3, a4, a5, a6, a7, a8⟩ sv) = ⟨sv, _, _, _, _, _, _, _, _, _⟩ := rfl
  rw [hv]
  clear hv
  generalize L9.m ⟨a0, a1, a2, a3, a4, a5, a6, a7, a8⟩ = m at *
  generalize L9.d ⟨a0, a1, a2, a3, a4, a5, a6, a7, a8⟩ = d at *
  have ED := hide ed
  have EM := hide em
  clear ed em
  simp only [L9.val]
  go_enter Tryd.func14, Tryd.ntmps14
  go_wp2_with fail
  refine (br a0 64328 _ p0 (by decide) (by decide)).mono ?_; rintro e w' ⟨rfl, rfl⟩
  go_wp2_with fail
  rw [← ED.out]
  have hb1 := brI_in a1 (1099511627776 - 2 * d + 1) (by omega)
  refine (br a1 (1099511627776 - 2 * d + 1) _ p1 (by omega) (by omega)).mono ?_; rintro e w' ⟨rfl, rfl⟩
  go_wp2_with fail
  rw [← EM.out]
  have h2 := brI_in a2 (m - 2 * d + 1) (by omega)
  have h3 := brI_in a3 59999000001 (by omega)
  have h4 := brI_in a4 16384000001 (by omega)
  have h5 := brI_in a5 21 (by omega)
  have h6 := brI_in a6 (1073741824 - d + 1) (by omega)
  have h7 := brI_in a7 255 (by omega)
  have h8 := brI_in a8 11 (by omega)
  have e1 : IntKind.i64.wrap (2 * d) = 2 * d := IntWalk.i64_in _ (by omega)
  have e2 : IntKind.i64.wrap (m - 2 * d) = m - 2 * d := IntWalk.i64_in _ (by omega)
  have e3 : IntKind.i64.wrap (m - 2 * d + 1) = m - 2 * d + 1 := IntWalk.i64_in _ (by omega)
  have e4 : IntKind.i64.wrap (1073741824 - d) = 1073741824 - d := IntWalk.i64_in _ (by omega)
  have e5 : IntKind.i64.wrap (1073741824 - d + 1) = 1073741824 - d + 1 := IntWalk.i64_in _ (by omega)
  have e6 : IntKind.i64.wrap (2 * d + brI a2 (m - 2 * d + 1)) = 2 * d + brI a2 (m - 2 * d + 1) := IntWalk.i64_in _ (by omega)
  have e7 : IntKind.i64.wrap (1000000 + brI a3 59999000001) = 1000000 + brI a3 59999000001 := IntWalk.i64_in _ (by omega)
  have e8 : IntKind.i64.wrap (d + brI a6 (1073741824 - d + 1)) = d + brI a6 (1073741824 - d + 1) := IntWalk.i64_in _ (by omega)
  have e9 : IntKind.i64.wrap (2 + brI a7 255) = 2 + brI a7 255 := IntWalk.i64_in _ (by omega)
  have hB1 : ((w.alloc (.cells #[.int .i64 a0, .int .i64 a1, .int .i64 a2, .int .i64 a3, .int .i64 a4, .int .i64 a5, .int .i64 a6, .int .i64 a7, .int .i64 a8] 22)).alloc (.cells Cf.zero.cells 24)).heap[w.heap.size]? = some (.cells #[.int .i64 a0, .int .i64 a1, .int .i64 a2, .int .i64 a3, .int .i64 a4, .int .i64 a5, .int .i64 a6, .int .i64 a7, .int .i64 a8] 22 (0, 0)) := by rw [heap_old _ (by simp)]; exact heap_at _ rfl
  have hB2 : ((w.alloc (.cells #[.int .i64 a0, .int .i64 a1, .int .i64 a2, .int .i64 a3, .int .i64 a4, .int .i64 a5, .int .i64 a6, .int .i64 a7, .int .i64 a8] 22)).alloc (.cells Cf.zero.cells 24)).heap[w.heap.size + 1]? = some (.cells Cf.zero.cells 24 (0, 0)) := heap_at _ (by simp)
  have hbW : Below w.heap.size w ((w.alloc (.cells #[.int .i64 a0, .int .i64 a1, .int .i64 a2, .int .i64 a3, .int .i64 a4, .int .i64 a5, .int .i64 a6, .int .i64 a7, .int .i64 a8] 22)).alloc (.cells Cf.zero.cells 24)) := ((Below.refl _ _).alloc (Nat.le_refl _) _).alloc (by simp) _
  simp only [Cf.zero, Cf.cells] at hB1 hB2 hbW
  generalize ((w.alloc (.cells #[.int .i64 a0, .int .i64 a1, .int .i64 a2, .int .i64 a3, .int .i64 a4, .int .i64 a5, .int .i64 a6, .int .i64 a7, .int .i64 a8] 22)).alloc (Obj.cells #[Value.bool false, Value.int IntKind.i64 0, Value.int IntKind.i64 0, Value.int IntKind.i64 0, Value.int IntKind.i64 0, Value.int IntKind.i64 0, Value.int IntKind.i64 0, Value.int IntKind.i64 0, Value.int IntKind.i64 0, Value.int IntKind.i64 0] 24)) = W1 at hB1 hB2 hbW ⊢
  refine wp_region_still_tail 40 (by kernel_rfl) (by kernel_rfl) ?_
  change wpStill _ _ W1.drew (fun a' => wpList _ _ _ _ a' W1.drew) _ _
  replace hB1 : W1.drew.heap[w.heap.size]? = some (.cells #[.int .i64 a0, .int .i64 a1, .int .i64 a2, .int .i64 a3, .int .i64 a4, .int .i64 a5, .int .i64 a6, .int .i64 a7, .int .i64 a8] 22 (0, 0)) := hB1
  have hB2' : W1.drew.heap[w.heap.size + 1]? = some (.cells Cf.zero.cells 24 (0, 0)) := hB2
  replace hbW := hbW.drew
  clear hB2
  generalize W1.drew = W2 at hB1 hB2' hbW ⊢
  have q0 := cell_at hB1 0 rfl
  have q1 := cell_at hB1 1 rfl
  have q2 := cell_at hB1 2 rfl
  have q3 := cell_at hB1 3 rfl
  have q4 := cell_at hB1 4 rfl
  have q5 := cell_at hB1 5 rfl
  have q6 := cell_at hB1 6 rfl
  have q7 := cell_at hB1 7 rfl
  have q8 := cell_at hB1 8 rfl
  simp only [List.take_succ_cons, List.take_zero, List.drop_succ_cons, List.drop_zero]
  repeat still_step
  still_call (br a2 (m - 2 * d + 1) _ p2 (by omega) (by omega))
  repeat still_step
  still_call (br a3 59999000001 _ p3 (by decide) (by decide))
  repeat still_step
  still_call (br a4 16384000001 _ p4 (by decide) (by decide))
  repeat still_step
  still_call (br a5 21 _ p5 (by decide) (by decide))
  repeat still_step
  still_call (br a6 (1073741824 - d + 1) _ p6 (by omega) (by omega))
  repeat still_step
  still_call (br a7 255 _ p7 (by decide) (by decide))
  repeat still_step
  still_call (br a8 11 _ p8 (by decide) (by decide))
  repeat still_step
  refine wpStill_nil ?_
  clear e1 e2 e3 e4 e5 e6 e7 e8 e9 h2 h3 h4 h5 h6 h7 h8 q0 q1 q2 q3 q4 q5 q6 q7 q8
  have c0_ := cell_at hB2' 0 rfl
  have f0_ := frozen_at hB2' 0
  have c1_ := cell_at hB2' 1 rfl
  have f1_ := frozen_at hB2' 1
  have c2_ := cell_at hB2' 2 rfl
  have f2_ := frozen_at hB2' 2
  have c3_ := cell_at hB2' 3 rfl
  have f3_ := frozen_at hB2' 3
  have c4_ := cell_at hB2' 4 rfl
  have f4_ := frozen_at hB2' 4
  have c5_ := cell_at hB2' 5 rfl
  have f5_ := frozen_at hB2' 5
  have c6_ := cell_at hB2' 6 rfl
  have f6_ := frozen_at hB2' 6
  have c7_ := cell_at hB2' 7 rfl
  have f7_ := frozen_at hB2' 7
  have c8_ := cell_at hB2' 8 rfl
  have f8_ := frozen_at hB2' 8
  have c9_ := cell_at hB2' 9 rfl
  have f9_ := frozen_at hB2' 9
  go_wp2_with fail
  refine bodyPost_ret (v := .agg #[.bool sv, .int .i64 d, .int .i64 (2 * d + brI a2 (m - 2 * d + 1)), .int .i64 m, .int .i64 (1000000 + brI a3 59999000001), .int .i64 (brI a4 16384000001), .int .i64 (brI a5 21), .int .i64 (d + brI a6 (1073741824 - d + 1)), .int .i64 (2 + brI a7 255), .int .i64 (brI a8 11)]) (by simp [results, Tryd.results14, go_sem, c0_, c1_, c2_, c3_, c4_, c5_, c6_, c7_, c8_, c9_]) rfl ⟨rfl, ?_⟩
  iterate 10 refine Below.setCell ?_ (by simp) _
  exact hbW
set_option maxRecDepth 100000 in
set_option maxHeartbeats 4000000 in
theorem with_any (c c' : Cf) (k n : Int) (w : World) (hk : 0 ≤ k ∧ k < 8) (hc : c' = c.with k n) : Calls Tryd.prog 17 #[c.val, .int .i64 k, .int .i64 n] w fun e w' => e = .returned c'.val ∧ Below w.heap.size w w' := by
  subst hc
  obtain ⟨sv, dg, fi, mo, rt, md, ex, bu, ro, ba⟩ := c
  simp only [Cf.val, Cf.cells]
  obtain rfl | rfl | rfl | rfl | rfl | rfl | rfl | rfl : k = 0 ∨ k = 1 ∨ k = 2 ∨ k = 3 ∨ k = 4 ∨ k = 5 ∨ k = 6 ∨ k = 7 := by omega
  · have ix : ∀ (b : Nat) (w : World), (Instr.index 72 (.agg #[.pointer (some ⟨b, 2, none⟩), .pointer (some ⟨b, 3, none⟩), .pointer (some ⟨b, 4, none⟩), .pointer (some ⟨b, 5, none⟩), .pointer (some ⟨b, 6, none⟩), .pointer (some ⟨b, 7, none⟩), .pointer (some ⟨b, 8, none⟩), .pointer (some ⟨b, 9, none⟩)]) (.int .i64 0)).run Tryd.prog w = .ok (.pointer (some ⟨b, 2, none⟩)) w := fun _ _ => by kernel_rfl
    go_enter Tryd.func17, Tryd.ntmps17
    go_wp2_with fail
    exact bodyPost_ret (v := .agg #[.bool sv, .int .i64 dg, .int .i64 n, .int .i64 mo, .int .i64 rt, .int .i64 md, .int .i64 ex, .int .i64 bu, .int .i64 ro, .int .i64 ba]) (by simp [results, Tryd.results17, go_sem]) rfl ⟨rfl, by repeat (first | exact Below.refl _ _ | refine Below.alloc ?_ (by simp) _ | refine Below.setCell ?_ (by simp) _)⟩
  · have ix : ∀ (b : Nat) (w : World), (Instr.index 72 (.agg #[.pointer (some ⟨b, 2, none⟩), .pointer (some ⟨b, 3, none⟩), .pointer (some ⟨b, 4, none⟩), .pointer (some ⟨b, 5, none⟩), .pointer (some ⟨b, 6, none⟩), .pointer (some ⟨b, 7, none⟩), .pointer (some ⟨b, 8, none⟩), .pointer (some ⟨b, 9, none⟩)]) (.int .i64 1)).run Tryd.prog w = .ok (.pointer (some ⟨b, 3, none⟩)) w := fun _ _ => by kernel_rfl
    go_enter Tryd.func17, Tryd.ntmps17
    go_wp2_with fail
    exact bodyPost_ret (v := .agg #[.bool sv, .int .i64 dg, .int .i64 fi, .int .i64 n, .int .i64 rt, .int .i64 md, .int .i64 ex, .int .i64 bu, .int .i64 ro, .int .i64 ba]) (by simp [results, Tryd.results17, go_sem]) rfl ⟨rfl, by repeat (first | exact Below.refl _ _ | refine Below.alloc ?_ (by simp) _ | refine Below.setCell ?_ (by simp) _)⟩
  · have ix : ∀ (b : Nat) (w : World), (Instr.index 72 (.agg #[.pointer (some ⟨b, 2, none⟩), .pointer (some ⟨b, 3, none⟩), .pointer (some ⟨b, 4, none⟩), .pointer (some ⟨b, 5, none⟩), .pointer (some ⟨b, 6, none⟩), .pointer (some ⟨b, 7, none⟩), .pointer (some ⟨b, 8, none⟩), .pointer (some ⟨b, 9, none⟩)]) (.int .i64 2)).run Tryd.prog w = .ok (.pointer (some ⟨b, 4, none⟩)) w := fun _ _ => by kernel_rfl
    go_enter Tryd.func17, Tryd.ntmps17
    go_wp2_with fail
    exact bodyPost_ret (v := .agg #[.bool sv, .int .i64 dg, .int .i64 fi, .int .i64 mo, .int .i64 n, .int .i64 md, .int .i64 ex, .int .i64 bu, .int .i64 ro, .int .i64 ba]) (by simp [results, Tryd.results17, go_sem]) rfl ⟨rfl, by repeat (first | exact Below.refl _ _ | refine Below.alloc ?_ (by simp) _ | refine Below.setCell ?_ (by simp) _)⟩
  · have ix : ∀ (b : Nat) (w : World), (Instr.index 72 (.agg #[.pointer (some ⟨b, 2, none⟩), .pointer (some ⟨b, 3, none⟩), .pointer (some ⟨b, 4, none⟩), .pointer (some ⟨b, 5, none⟩), .pointer (some ⟨b, 6, none⟩), .pointer (some ⟨b, 7, none⟩), .pointer (some ⟨b, 8, none⟩), .pointer (some ⟨b, 9, none⟩)]) (.int .i64 3)).run Tryd.prog w = .ok (.pointer (some ⟨b, 5, none⟩)) w := fun _ _ => by kernel_rfl
    go_enter Tryd.func17, Tryd.ntmps17
    go_wp2_with fail
    exact bodyPost_ret (v := .agg #[.bool sv, .int .i64 dg, .int .i64 fi, .int .i64 mo, .int .i64 rt, .int .i64 n, .int .i64 ex, .int .i64 bu, .int .i64 ro, .int .i64 ba]) (by simp [results, Tryd.results17, go_sem]) rfl ⟨rfl, by repeat (first | exact Below.refl _ _ | refine Below.alloc ?_ (by simp) _ | refine Below.setCell ?_ (by simp) _)⟩
  · have ix : ∀ (b : Nat) (w : World), (Instr.index 72 (.agg #[.pointer (some ⟨b, 2, none⟩), .pointer (some ⟨b, 3, none⟩), .pointer (some ⟨b, 4, none⟩), .pointer (some ⟨b, 5, none⟩), .pointer (some ⟨b, 6, none⟩), .pointer (some ⟨b, 7, none⟩), .pointer (some ⟨b, 8, none⟩), .pointer (some ⟨b, 9, none⟩)]) (.int .i64 4)).run Tryd.prog w = .ok (.pointer (some ⟨b, 6, none⟩)) w := fun _ _ => by kernel_rfl
    go_enter Tryd.func17, Tryd.ntmps17
    go_wp2_with fail
    exact bodyPost_ret (v := .agg #[.bool sv, .int .i64 dg, .int .i64 fi, .int .i64 mo, .int .i64 rt, .int .i64 md, .int .i64 n, .int .i64 bu, .int .i64 ro, .int .i64 ba]) (by simp [results, Tryd.results17, go_sem]) rfl ⟨rfl, by repeat (first | exact Below.refl _ _ | refine Below.alloc ?_ (by simp) _ | refine Below.setCell ?_ (by simp) _)⟩
  · have ix : ∀ (b : Nat) (w : World), (Instr.index 72 (.agg #[.pointer (some ⟨b, 2, none⟩), .pointer (some ⟨b, 3, none⟩), .pointer (some ⟨b, 4, none⟩), .pointer (some ⟨b, 5, none⟩), .pointer (some ⟨b, 6, none⟩), .pointer (some ⟨b, 7, none⟩), .pointer (some ⟨b, 8, none⟩), .pointer (some ⟨b, 9, none⟩)]) (.int .i64 5)).run Tryd.prog w = .ok (.pointer (some ⟨b, 7, none⟩)) w := fun _ _ => by kernel_rfl
    go_enter Tryd.func17, Tryd.ntmps17
    go_wp2_with fail
    exact bodyPost_ret (v := .agg #[.bool sv, .int .i64 dg, .int .i64 fi, .int .i64 mo, .int .i64 rt, .int .i64 md, .int .i64 ex, .int .i64 n, .int .i64 ro, .int .i64 ba]) (by simp [results, Tryd.results17, go_sem]) rfl ⟨rfl, by repeat (first | exact Below.refl _ _ | refine Below.alloc ?_ (by simp) _ | refine Below.setCell ?_ (by simp) _)⟩
  · have ix : ∀ (b : Nat) (w : World), (Instr.index 72 (.agg #[.pointer (some ⟨b, 2, none⟩), .pointer (some ⟨b, 3, none⟩), .pointer (some ⟨b, 4, none⟩), .pointer (some ⟨b, 5, none⟩), .pointer (some ⟨b, 6, none⟩), .pointer (some ⟨b, 7, none⟩), .pointer (some ⟨b, 8, none⟩), .pointer (some ⟨b, 9, none⟩)]) (.int .i64 6)).run Tryd.prog w = .ok (.pointer (some ⟨b, 8, none⟩)) w := fun _ _ => by kernel_rfl
    go_enter Tryd.func17, Tryd.ntmps17
    go_wp2_with fail
    exact bodyPost_ret (v := .agg #[.bool sv, .int .i64 dg, .int .i64 fi, .int .i64 mo, .int .i64 rt, .int .i64 md, .int .i64 ex, .int .i64 bu, .int .i64 n, .int .i64 ba]) (by simp [results, Tryd.results17, go_sem]) rfl ⟨rfl, by repeat (first | exact Below.refl _ _ | refine Below.alloc ?_ (by simp) _ | refine Below.setCell ?_ (by simp) _)⟩
  · have ix : ∀ (b : Nat) (w : World), (Instr.index 72 (.agg #[.pointer (some ⟨b, 2, none⟩), .pointer (some ⟨b, 3, none⟩), .pointer (some ⟨b, 4, none⟩), .pointer (some ⟨b, 5, none⟩), .pointer (some ⟨b, 6, none⟩), .pointer (some ⟨b, 7, none⟩), .pointer (some ⟨b, 8, none⟩), .pointer (some ⟨b, 9, none⟩)]) (.int .i64 7)).run Tryd.prog w = .ok (.pointer (some ⟨b, 9, none⟩)) w := fun _ _ => by kernel_rfl
    go_enter Tryd.func17, Tryd.ntmps17
    go_wp2_with fail
    exact bodyPost_ret (v := .agg #[.bool sv, .int .i64 dg, .int .i64 fi, .int .i64 mo, .int .i64 rt, .int .i64 md, .int .i64 ex, .int .i64 bu, .int .i64 ro, .int .i64 n]) (by simp [results, Tryd.results17, go_sem]) rfl ⟨rfl, by repeat (first | exact Below.refl _ _ | refine Below.alloc ?_ (by simp) _ | refine Below.setCell ?_ (by simp) _)⟩
end Go.Proofs.YtjhkgoppopfoaaaDoor
