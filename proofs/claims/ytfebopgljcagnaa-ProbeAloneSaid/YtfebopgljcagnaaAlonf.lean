/-
  The walk of ProbeAlone: it answers true whatever is left and whatever the two deeds, and turns nothing that was there.
-/
import Derived.Test.YtfebopgljcagnaaAlone
namespace Go.Proofs.Ytfebopgljcagnaa
open Go.RowKit Go.Sort
set_option linter.unusedVariables false
set_option linter.unusedSimpArgs false

/-- What a round of ProbeAlone's loop keeps. -/
def ARel (w : World) (B4 B5 B7 B10 B12 : Nat) (t s t2 s2 X Y Z P0 P1 P2 Q0 Q1 Q2 : Int) (i : Value) (wr : World) : Prop :=
  ∃ k : Int, i = .int .i64 k ∧ 0 ≤ k ∧ k ≤ 3 ∧ Is2 wr B4 t s ∧ Is2 wr B5 t2 s2 ∧ Is3 wr B7 X Y Z ∧ Is3 wr B10 P0 P1 P2 ∧ Is3 wr B12 Q0 Q1 Q2 ∧ Below w.heap.size w wr

set_option maxHeartbeats 8000000 in
theorem alone_any (n t s t2 s2 : Int) (w : World) (n0 : -9223372036854775808 ≤ n) (n1 : n ≤ 9223372036854775807) (t0 : -9223372036854775808 ≤ t) (t1 : t ≤ 9223372036854775807) (s0 : -9223372036854775808 ≤ s) (s1 : s ≤ 9223372036854775807)
    (u0 : -9223372036854775808 ≤ t2) (u1 : t2 ≤ 9223372036854775807) (v0 : -9223372036854775808 ≤ s2) (v1 : s2 ≤ 9223372036854775807) :
    Calls Try.prog 5 #[.int .i64 n, .agg #[.int .i64 t, .int .i64 s], .agg #[.int .i64 t2, .int .i64 s2]] w fun e w' => e = .returned (.bool true) ∧ Below w.heap.size w w' := by
  have qe := run_eqA 23 Try.underlying23
  go_enter Try.func5, Try.ntmps5
  go_wp2_with fail
  refine (bring_any n 27 _ n0 n1 (by omega) (by omega)).mono ?_; rintro e w' ⟨rfl, rfl⟩
  have N0 : 0 ≤ n % 27 := Int.emod_nonneg _ (by omega)
  have N1 : n % 27 < 27 := Int.emod_lt_of_pos _ (by omega)
  generalize n % 27 = N at *
  clear n0 n1
  have hok := ok_of_num N N0 N1
  go_wp2_with fail
  generalize N % 3 = X at *
  generalize N / 3 % 3 = Y at *
  generalize N / 9 = Z at *
  clear N0 N1
  obtain ⟨a, ha⟩ : ∃ a, s % 3 = a := ⟨_, rfl⟩
  obtain ⟨b, hb⟩ : ∃ b, s2 % 3 = b := ⟨_, rfl⟩
  obtain ⟨d, hd⟩ : ∃ d, t % 4 = d := ⟨_, rfl⟩
  obtain ⟨f, hf⟩ : ∃ f, t2 % 4 = f := ⟨_, rfl⟩
  have a0 : 0 ≤ a := by omega
  have a1 : a < 3 := by omega
  have b0 : 0 ≤ b := by omega
  have b1 : b < 3 := by omega
  have d0 : 0 ≤ d := by omega
  have d1 : d < 4 := by omega
  have f0 : 0 ≤ f := by omega
  have f1 : f < 4 := by omega
  have H := hide (And.intro ha (And.intro hb (And.intro hd hf)))
  clear ha hb hd hf
  obtain ⟨P0, P1, P2, E, D⟩ := deeds_ex X Y Z a d
  obtain ⟨Q0, Q1, Q2, F, G⟩ := deeds_ex X Y Z b f
  have k4 : Is2 (((w.alloc (.cells #[.int .i64 t, .int .i64 s] 42)).alloc (.cells #[.int .i64 t2, .int .i64 s2] 42)).alloc (.cells #[.int .i64 X, .int .i64 Y, .int .i64 Z] 23)) w.heap.size t s := ((Is2.made w t s 42).alloc _).alloc _
  have k5 : Is2 (((w.alloc (.cells #[.int .i64 t, .int .i64 s] 42)).alloc (.cells #[.int .i64 t2, .int .i64 s2] 42)).alloc (.cells #[.int .i64 X, .int .i64 Y, .int .i64 Z] 23)) (w.heap.size + 1) t2 s2 := by simpa using (Is2.made (w.alloc (.cells #[.int .i64 t, .int .i64 s] 42)) t2 s2 42).alloc (.cells #[.int .i64 X, .int .i64 Y, .int .i64 Z] 23)
  have k7 : Is3 (((w.alloc (.cells #[.int .i64 t, .int .i64 s] 42)).alloc (.cells #[.int .i64 t2, .int .i64 s2] 42)).alloc (.cells #[.int .i64 X, .int .i64 Y, .int .i64 Z] 23)) (w.heap.size + 1 + 1) X Y Z := by simpa using Is3.made ((w.alloc (.cells #[.int .i64 t, .int .i64 s] 42)).alloc (.cells #[.int .i64 t2, .int .i64 s2] 42)) X Y Z 23
  have bel : Below w.heap.size w (((w.alloc (.cells #[.int .i64 t, .int .i64 s] 42)).alloc (.cells #[.int .i64 t2, .int .i64 s2] 42)).alloc (.cells #[.int .i64 X, .int .i64 Y, .int .i64 Z] 23)) := by go_grown
  obtain ⟨W, hW⟩ : ∃ W, W = (((w.alloc (Obj.cells #[.int .i64 t, .int .i64 s] 42)).alloc (Obj.cells #[.int .i64 t2, .int .i64 s2] 42)).alloc (Obj.cells #[.int .i64 X, .int .i64 Y, .int .i64 Z] 23)) := ⟨_, rfl⟩
  simp only [← hW] at k4 k5 k7 bel ⊢
  clear hW

  try clear k4a k4b k4l
  have k4a := cell_regrown k4.1; have k4b := cell_regrown k4.2
  try clear k5a k5b k5l
  have k5a := cell_regrown k5.1; have k5b := cell_regrown k5.2
  try clear k7a k7b k7c k7l
  have k7a := cell_regrown k7.1; have k7b := cell_regrown k7.2.1; have k7c := cell_regrown k7.2.2
  refine wp_region_quiet_below (by kernel_rfl) (by kernel_rfl) ?_
  repeat (first | go_big_quiet_step ((first | (go_at_call 23; exact Calls.regrown_of (bring_b _ 3 _ (by assumption) (by assumption) (by omega) (by omega))))) | quiet_step ((first | (go_at_call 23; exact Calls.regrown_of (bring_b _ 3 _ (by assumption) (by assumption) (by omega) (by omega))))))
  refine wpQuiet_nil ?_
  intro w1 hw2
  obtain ⟨⟨dq, osq⟩, hw3⟩ := hw2
  have hbq : Below W.heap.size W w1 := by rw [hw3]; exact below_regrown W dq osq
  clear hw3
  replace bel := below_after bel hbq
  clear k4a k4b
  replace k4 := k4.keep hbq
  clear k5a k5b
  replace k5 := k5.keep hbq
  clear k7a k7b k7c
  replace k7 := k7.keep hbq
  clear hbq
  try clear k4a k4b k4l
  have k4a := k4.1; have k4b := k4.2; have k4l := k4.lt
  try clear k5a k5b k5l
  have k5a := k5.1; have k5b := k5.2; have k5l := k5.lt
  try clear k7a k7b k7c k7l
  have k7a := k7.1; have k7b := k7.2.1; have k7c := k7.2.2; have k7l := k7.lt
  rw [H.out.1, H.out.2.1]
  go_wp2_with fail
  refine (deed_of D t s _ hok t0 t1 s0 s1 H.out.1 H.out.2.2.1).mono ?_; rintro e w2 ⟨rfl, hb⟩
  replace k4 := k4.keep hb
  replace k5 := k5.keep hb
  replace k7 := k7.keep hb
  replace bel := below_after bel hb
  clear hb
  try clear k4a k4b k4l
  have k4a := k4.1; have k4b := k4.2; have k4l := k4.lt
  try clear k5a k5b k5l
  have k5a := k5.1; have k5b := k5.2; have k5l := k5.lt
  try clear k7a k7b k7c k7l
  have k7a := k7.1; have k7b := k7.2.1; have k7c := k7.2.2; have k7l := k7.lt
  go_wp2_with fail
  refine (deed_of G t2 s2 _ hok u0 u1 v0 v1 H.out.2.1 H.out.2.2.2).mono ?_; rintro e w3 ⟨rfl, hb⟩
  replace k4 := (k4.alloc (Obj.cells #[.int .i64 P0, .int .i64 P1, .int .i64 P2] 23)).keep hb
  replace k5 := (k5.alloc (Obj.cells #[.int .i64 P0, .int .i64 P1, .int .i64 P2] 23)).keep hb
  replace k7 := (k7.alloc (Obj.cells #[.int .i64 P0, .int .i64 P1, .int .i64 P2] 23)).keep hb
  have k10 := (Is3.made w2 P0 P1 P2 23).keep hb
  replace bel := below_after (bel.alloc bel.size (Obj.cells #[.int .i64 P0, .int .i64 P1, .int .i64 P2] 23)) hb
  clear hb
  try clear k4a k4b k4l
  have k4a := k4.1; have k4b := k4.2; have k4l := k4.lt
  try clear k5a k5b k5l
  have k5a := k5.1; have k5b := k5.2; have k5l := k5.lt
  try clear k7a k7b k7c k7l
  have k7a := k7.1; have k7b := k7.2.1; have k7c := k7.2.2; have k7l := k7.lt
  try clear k10a k10b k10c k10l
  have k10a := k10.1; have k10b := k10.2.1; have k10c := k10.2.2; have k10l := k10.lt
  go_wp2_with fail
  replace k4 := k4.alloc (Obj.cells #[.int .i64 Q0, .int .i64 Q1, .int .i64 Q2] 23)
  replace k5 := k5.alloc (Obj.cells #[.int .i64 Q0, .int .i64 Q1, .int .i64 Q2] 23)
  replace k7 := k7.alloc (Obj.cells #[.int .i64 Q0, .int .i64 Q1, .int .i64 Q2] 23)
  replace k10 := k10.alloc (Obj.cells #[.int .i64 Q0, .int .i64 Q1, .int .i64 Q2] 23)
  have k12 := Is3.made w3 Q0 Q1 Q2 23
  replace bel := bel.alloc bel.size (Obj.cells #[.int .i64 Q0, .int .i64 Q1, .int .i64 Q2] 23)
  try clear k4a k4b k4l
  try clear k5a k5b k5l
  try clear k7a k7b k7c k7l
  try clear k10a k10b k10c k10l
  try clear k12a k12b k12c k12l
  obtain ⟨w4, hW⟩ : ∃ W, W = w3.alloc (Obj.cells #[.int .i64 Q0, .int .i64 Q1, .int .i64 Q2] 23) := ⟨_, rfl⟩
  simp only [← hW] at k4 k5 k7 k10 k12 bel ⊢
  clear hW
  try clear k4a k4b k4l
  try clear k5a k5b k5l
  try clear k7a k7b k7c k7l
  try clear k10a k10b k10c k10l
  try clear k12a k12b k12c k12l
  obtain ⟨B10, hB10⟩ : ∃ B, B = w2.heap.size := ⟨_, rfl⟩
  obtain ⟨B12, hB12⟩ : ∃ B, B = w3.heap.size := ⟨_, rfl⟩
  rw [← hB10] at k10 ⊢
  rw [← hB12] at k12 ⊢
  clear hB10 hB12
  go_loopw [14] (ARel w w.heap.size (w.heap.size + 1) (w.heap.size + 1 + 1) B10 B12 t s t2 s2 X Y Z P0 P1 P2 Q0 Q1 Q2) (fun i _ => (3 - intOf i).toNat)
  case atStart => exact ⟨0, rfl, by omega, by omega, k4, k5, k7, k10, k12, bel⟩
  case round =>
    clear k4 k5 k7 k10 k12 bel
    obtain ⟨k, rfl, k0, k3, k4, k5, k7, k10, k12, bel⟩ := hrel
    by_cases hlt : k < 3
    · by_cases hE : E = 0
      · by_cases hka : k = a
        · skip
          have t1 : (E == 0) = true := by simp [hE]
          have t2 : (k != a) = false := by simp [hka]
          clear hE hka
          go_wp2_with fail
          try clear k4a k4b k4l
          have k4a := cell_regrown k4.1; have k4b := cell_regrown k4.2
          try clear k5a k5b k5l
          have k5a := cell_regrown k5.1; have k5b := cell_regrown k5.2
          try clear k7a k7b k7c k7l
          have k7a := cell_regrown k7.1; have k7b := cell_regrown k7.2.1; have k7c := cell_regrown k7.2.2
          try clear k10a k10b k10c k10l
          have k10a := cell_regrown k10.1; have k10b := cell_regrown k10.2.1; have k10c := cell_regrown k10.2.2
          try clear k12a k12b k12c k12l
          have k12a := cell_regrown k12.1; have k12b := cell_regrown k12.2.1; have k12c := cell_regrown k12.2.2
          refine wp_region_quiet_below (by kernel_rfl) (by kernel_rfl) ?_
          repeat (first | go_big_quiet_step (fail) | quiet_step (fail))
          refine wpQuiet_nil ?_
          intro q1 hw2
          obtain ⟨⟨dq, osq⟩, hw3⟩ := hw2
          have hbq : Below wr.heap.size wr q1 := by rw [hw3]; exact below_regrown wr dq osq
          clear hw3
          replace bel := below_after bel hbq
          clear k4a k4b
          replace k4 := k4.keep hbq
          clear k5a k5b
          replace k5 := k5.keep hbq
          clear k7a k7b k7c
          replace k7 := k7.keep hbq
          clear k10a k10b k10c
          replace k10 := k10.keep hbq
          clear k12a k12b k12c
          replace k12 := k12.keep hbq
          clear hbq
          go_wp2
          go_roundw
          case rel => exact ⟨k + 1, rfl, by omega, by omega, k4, k5, k7, k10, k12, bel⟩
          case measure => simp [intOf]; omega
        · skip
          have t1 : (E == 0) = true := by simp [hE]
          have t2 : (k != a) = true := by simp [hka]
          have i10 := k10.at k0 hlt
          have i7 := k7.at k0 hlt
          rw [D.away hE k hka k0 hlt] at i10
          clear hE hka
          go_wp2_with fail
          try clear k4a k4b k4l
          have k4a := cell_regrown k4.1; have k4b := cell_regrown k4.2
          try clear k5a k5b k5l
          have k5a := cell_regrown k5.1; have k5b := cell_regrown k5.2
          try clear k7a k7b k7c k7l
          have k7a := cell_regrown k7.1; have k7b := cell_regrown k7.2.1; have k7c := cell_regrown k7.2.2
          try clear k10a k10b k10c k10l
          have k10a := cell_regrown k10.1; have k10b := cell_regrown k10.2.1; have k10c := cell_regrown k10.2.2
          try clear k12a k12b k12c k12l
          have k12a := cell_regrown k12.1; have k12b := cell_regrown k12.2.1; have k12c := cell_regrown k12.2.2
          replace i10 := cell_regrown i10
          replace i7 := cell_regrown i7
          refine wp_region_quiet_below (by kernel_rfl) (by kernel_rfl) ?_
          repeat (first | go_big_quiet_step (fail) | quiet_step (fail))
          refine wpQuiet_nil ?_
          intro q1 hw2
          obtain ⟨⟨dq, osq⟩, hw3⟩ := hw2
          have hbq : Below wr.heap.size wr q1 := by rw [hw3]; exact below_regrown wr dq osq
          clear hw3
          replace bel := below_after bel hbq
          clear k4a k4b
          replace k4 := k4.keep hbq
          clear k5a k5b
          replace k5 := k5.keep hbq
          clear k7a k7b k7c
          replace k7 := k7.keep hbq
          clear k10a k10b k10c
          replace k10 := k10.keep hbq
          clear k12a k12b k12c
          replace k12 := k12.keep hbq
          clear i10
          clear i7
          clear hbq
          go_wp2
          go_roundw
          case rel => exact ⟨k + 1, rfl, by omega, by omega, k4, k5, k7, k10, k12, bel⟩
          case measure => simp [intOf]; omega
      · skip
        have t1 : (E == 0) = false := by simp [hE]
        clear hE
        go_wp2_with fail
        try clear k4a k4b k4l
        have k4a := cell_regrown k4.1; have k4b := cell_regrown k4.2
        try clear k5a k5b k5l
        have k5a := cell_regrown k5.1; have k5b := cell_regrown k5.2
        try clear k7a k7b k7c k7l
        have k7a := cell_regrown k7.1; have k7b := cell_regrown k7.2.1; have k7c := cell_regrown k7.2.2
        try clear k10a k10b k10c k10l
        have k10a := cell_regrown k10.1; have k10b := cell_regrown k10.2.1; have k10c := cell_regrown k10.2.2
        try clear k12a k12b k12c k12l
        have k12a := cell_regrown k12.1; have k12b := cell_regrown k12.2.1; have k12c := cell_regrown k12.2.2
        refine wp_region_quiet_below (by kernel_rfl) (by kernel_rfl) ?_
        repeat (first | go_big_quiet_step (fail) | quiet_step (fail))
        refine wpQuiet_nil ?_
        intro q1 hw2
        obtain ⟨⟨dq, osq⟩, hw3⟩ := hw2
        have hbq : Below wr.heap.size wr q1 := by rw [hw3]; exact below_regrown wr dq osq
        clear hw3
        replace bel := below_after bel hbq
        clear k4a k4b
        replace k4 := k4.keep hbq
        clear k5a k5b
        replace k5 := k5.keep hbq
        clear k7a k7b k7c
        replace k7 := k7.keep hbq
        clear k10a k10b k10c
        replace k10 := k10.keep hbq
        clear k12a k12b k12c
        replace k12 := k12.keep hbq
        clear hbq
        go_wp2
        go_roundw
        case rel => exact ⟨k + 1, rfl, by omega, by omega, k4, k5, k7, k10, k12, bel⟩
        case measure => simp [intOf]; omega
    · by_cases hab : a = b
      · skip
        have q1 : (a == b) = true := by simp [hab]
        clear hab
        go_wp2_with (go_at_call 22; refine (works_any _).mono ?_; rintro e wx ⟨rfl, hb⟩)
        go_ret
        exact ⟨rfl, below_after bel hb⟩
      · by_cases hE : E = 0
        · by_cases hF : F = 0
          · skip
            have q1 : (a == b) = false := by simp [hab]
            have q2 : (E != 0) = false := by simp [hE]
            have q3 : (F != 0) = false := by simp [hF]
            obtain ⟨U0, U1, U2, DU, GU⟩ := D.turn G hE hF hab a0 a1 b0 b1
            have okP := D.ok hE hok d0 d1
            have okQ := G.ok hF hok f0 f1
            clear hab hE hF
            try clear k4a k4b k4l
            have k4a := k4.1; have k4b := k4.2; have k4l := k4.lt
            try clear k5a k5b k5l
            have k5a := k5.1; have k5b := k5.2; have k5l := k5.lt
            try clear k7a k7b k7c k7l
            have k7a := k7.1; have k7b := k7.2.1; have k7c := k7.2.2; have k7l := k7.lt
            try clear k10a k10b k10c k10l
            have k10a := k10.1; have k10b := k10.2.1; have k10c := k10.2.2; have k10l := k10.lt
            try clear k12a k12b k12c k12l
            have k12a := k12.1; have k12b := k12.2.1; have k12c := k12.2.2; have k12l := k12.lt
            go_wp2_with fail
            refine (deed_of DU t2 s2 _ okP u0 u1 v0 v1 H.out.2.1 H.out.2.2.2).mono ?_; rintro e q1 ⟨rfl, hb⟩
            replace k4 := k4.keep hb
            replace k5 := k5.keep hb
            replace k7 := k7.keep hb
            replace k10 := k10.keep hb
            replace k12 := k12.keep hb
            replace bel := below_after bel hb
            clear hb
            try clear k4a k4b k4l
            have k4a := k4.1; have k4b := k4.2; have k4l := k4.lt
            try clear k5a k5b k5l
            have k5a := k5.1; have k5b := k5.2; have k5l := k5.lt
            try clear k7a k7b k7c k7l
            have k7a := k7.1; have k7b := k7.2.1; have k7c := k7.2.2; have k7l := k7.lt
            try clear k10a k10b k10c k10l
            have k10a := k10.1; have k10b := k10.2.1; have k10c := k10.2.2; have k10l := k10.lt
            try clear k12a k12b k12c k12l
            have k12a := k12.1; have k12b := k12.2.1; have k12c := k12.2.2; have k12l := k12.lt
            go_wp2_with fail
            refine (deed_of GU t s _ okQ t0 t1 s0 s1 H.out.1 H.out.2.2.1).mono ?_; rintro e q2 ⟨rfl, hb⟩
            replace k4 := (k4.alloc (Obj.cells #[.int .i64 U0, .int .i64 U1, .int .i64 U2] 23)).keep hb
            replace k5 := (k5.alloc (Obj.cells #[.int .i64 U0, .int .i64 U1, .int .i64 U2] 23)).keep hb
            replace k7 := (k7.alloc (Obj.cells #[.int .i64 U0, .int .i64 U1, .int .i64 U2] 23)).keep hb
            replace k10 := (k10.alloc (Obj.cells #[.int .i64 U0, .int .i64 U1, .int .i64 U2] 23)).keep hb
            replace k12 := (k12.alloc (Obj.cells #[.int .i64 U0, .int .i64 U1, .int .i64 U2] 23)).keep hb
            have k15 := (Is3.made q1 U0 U1 U2 23).keep hb
            replace bel := below_after (bel.alloc bel.size (Obj.cells #[.int .i64 U0, .int .i64 U1, .int .i64 U2] 23)) hb
            clear hb
            try clear k4a k4b k4l
            have k4a := k4.1; have k4b := k4.2; have k4l := k4.lt
            try clear k5a k5b k5l
            have k5a := k5.1; have k5b := k5.2; have k5l := k5.lt
            try clear k7a k7b k7c k7l
            have k7a := k7.1; have k7b := k7.2.1; have k7c := k7.2.2; have k7l := k7.lt
            try clear k10a k10b k10c k10l
            have k10a := k10.1; have k10b := k10.2.1; have k10c := k10.2.2; have k10l := k10.lt
            try clear k12a k12b k12c k12l
            have k12a := k12.1; have k12b := k12.2.1; have k12c := k12.2.2; have k12l := k12.lt
            try clear k15a k15b k15c k15l
            have k15a := k15.1; have k15b := k15.2.1; have k15c := k15.2.2; have k15l := k15.lt
            go_wp2_with (go_at_call 22; refine (works_any _).mono ?_; rintro e wx ⟨rfl, hb⟩)
            go_ret
            exact ⟨rfl, below_after (bel.alloc bel.size _) hb⟩
          · skip
            have q1 : (a == b) = false := by simp [hab]
            have q2 : (E != 0) = false := by simp [hE]
            have q3 : (F != 0) = true := by simp [hF]
            clear hab hE hF
            go_wp2_with (go_at_call 22; refine (works_any _).mono ?_; rintro e wx ⟨rfl, hb⟩)
            go_ret
            exact ⟨rfl, below_after bel hb⟩
        · skip
          have q1 : (a == b) = false := by simp [hab]
          have q2 : (E != 0) = true := by simp [hE]
          clear hab hE
          go_wp2_with (go_at_call 22; refine (works_any _).mono ?_; rintro e wx ⟨rfl, hb⟩)
          go_ret
          exact ⟨rfl, below_after bel hb⟩
end Go.Proofs.Ytfebopgljcagnaa
