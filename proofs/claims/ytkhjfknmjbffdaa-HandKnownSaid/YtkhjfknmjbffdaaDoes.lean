/-
  The contract of 'does': one call of both, the handshake and the document's answer: both answer the same, and are in one state behind it.
-/
import Derived.Test.YtkhjfknmjbffdaaSame
namespace Go.Proofs.Ytkhjfknmjbffdaa
open Go.RowKit Go.Sort
set_option linter.unusedVariables false
set_option linter.unusedSimpArgs false
/-- The ending of a call of both. -/
def DidB (B b m : Nat) (E : Int) (S' : HS) (w : World) (e : Ending) (w' : World) : Prop := e = .returned (.tuple #[.int .i64 E, .int .i64 E]) ∧ IsHand w' b S' ∧ IsRef w' B m S' ∧ Below b w w'
theorem only_below {b B : Nat} {w w' : World} (h : Only b w w') (hB : B ≤ b) (hs : b ≤ w.heap.size) : Below B w w' := by
  exact ⟨h.os, h.tape, h.output, h.size, fun k hk => h.block k (by omega) (by omega)⟩

set_option maxRecDepth 100000 in
set_option maxHeartbeats 4000000 in
theorem does_0 {w : World} {B b m : Nat} {S : HS} (hh : IsHand w b S) (hr : IsRef w B m S) (hbB : b < B) (hok : S.ok) (t s : Int) (t0 : -9223372036854775808 ≤ t) (t1 : t ≤ 9223372036854775807) (hq : t % 7 = 0) :
    Calls Try.prog 28 #[.pointer (some ⟨b, 0, none⟩), .pointer (some ⟨m, 0, none⟩), .agg #[.int .i64 t, .int .i64 s]] w (DidB B b m (S.callE 0 s) (S.callS 0 s) w) := by
  obtain ⟨vK, vG, K, G, hr⟩ := hr
  have HQ := hide hq
  clear hq
  obtain ⟨W, hW⟩ : ∃ W, W = w.alloc (.cells #[.int .i64 t, .int .i64 s] 27) := ⟨_, rfl⟩
  have hbel : Below w.heap.size w W := by rw [hW]; exact below_alloc1 w _
  have hx : W.heap[w.heap.size]? = some (.cells #[.int .i64 t, .int .i64 s] 27 (0, 0)) := by rw [hW]; show (w.heap.push _)[w.heap.size]? = _; simp
  have c0 : W.cell? ⟨w.heap.size, 0, none⟩ = some (.int .i64 t) := by simp [World.cell?, hx]
  have c1 : W.cell? ⟨w.heap.size, 0 + 1, none⟩ = some (.int .i64 s) := by simp [World.cell?, hx]
  have hlt := hh.lt
  have hhW := hh.keep hbel
  have hrW := hr.keep hbel
  have hne : w.heap.size ≠ b := by omega
  have hbw : b ≤ w.heap.size := by omega
  have hsz : b ≤ W.heap.size := Nat.le_trans hbw hbel.size
  have HW := hide hW
  clear hW hh hr hx
  go_enter Try.func28, Try.ntmps28
  go_wp2_with fail
  rw [← HW.out]
  refine (bring_eq t 7 0 _ t0 t1 (by omega) (by omega) HQ.out).mono ?_; rintro e w' ⟨rfl, rfl⟩
  have c1d : W.drew.cell? ⟨w.heap.size, 0 + 1, none⟩ = some (.int .i64 s) := c1
  have hrd := hrW.drew
  have hhd : IsHand W.drew b S := hhW
  have hbd : Below w.heap.size w W.drew := ⟨hbel.os, hbel.tape, hbel.output, hbel.size, hbel.block⟩
  go_wp2_with fail
  go_region_with (first
    | (go_at_call 26; refine (keys_any b S s _ ?_ hok).mono ?_; exact hhd; rintro e w1 ⟨rfl, hh1, ho⟩; have hr1 := hrd.away ho hbB; have c1' := ho.cell c1d hne)
    | (go_at_call 40; refine (rkeys_any hr1 hok s).mono ?_; rintro e w2 ⟨rfl, hr2, hb2⟩; have hh2 : IsHand w2 b _ := (hb2.block b hbB).trans hh1; have hbelow := ((hbd.mono hbw).trans (only_below ho (Nat.le_refl _) hsz)).trans (hb2.mono (Nat.le_of_lt hbB))))
  all_goals
    go_wp2_with fail
    go_ret2
    exact ⟨rfl, hh2, hr2, hbelow⟩

set_option maxRecDepth 100000 in
set_option maxHeartbeats 4000000 in
theorem does_1 {w : World} {B b m : Nat} {S : HS} (hh : IsHand w b S) (hr : IsRef w B m S) (hbB : b < B) (hok : S.ok) (t s : Int) (t0 : -9223372036854775808 ≤ t) (t1 : t ≤ 9223372036854775807) (hq : t % 7 = 1) :
    Calls Try.prog 28 #[.pointer (some ⟨b, 0, none⟩), .pointer (some ⟨m, 0, none⟩), .agg #[.int .i64 t, .int .i64 s]] w (DidB B b m (S.callE 1 s) (S.callS 1 s) w) := by
  obtain ⟨vK, vG, K, G, hr⟩ := hr
  have HQ := hide hq
  clear hq
  obtain ⟨W, hW⟩ : ∃ W, W = w.alloc (.cells #[.int .i64 t, .int .i64 s] 27) := ⟨_, rfl⟩
  have hbel : Below w.heap.size w W := by rw [hW]; exact below_alloc1 w _
  have hx : W.heap[w.heap.size]? = some (.cells #[.int .i64 t, .int .i64 s] 27 (0, 0)) := by rw [hW]; show (w.heap.push _)[w.heap.size]? = _; simp
  have c0 : W.cell? ⟨w.heap.size, 0, none⟩ = some (.int .i64 t) := by simp [World.cell?, hx]
  have c1 : W.cell? ⟨w.heap.size, 0 + 1, none⟩ = some (.int .i64 s) := by simp [World.cell?, hx]
  have hlt := hh.lt
  have hhW := hh.keep hbel
  have hrW := hr.keep hbel
  have hne : w.heap.size ≠ b := by omega
  have hbw : b ≤ w.heap.size := by omega
  have hsz : b ≤ W.heap.size := Nat.le_trans hbw hbel.size
  have HW := hide hW
  clear hW hh hr hx
  go_enter Try.func28, Try.ntmps28
  go_wp2_with fail
  rw [← HW.out]
  refine (bring_eq t 7 1 _ t0 t1 (by omega) (by omega) HQ.out).mono ?_; rintro e w' ⟨rfl, rfl⟩
  have c1d : W.drew.cell? ⟨w.heap.size, 0 + 1, none⟩ = some (.int .i64 s) := c1
  have hrd := hrW.drew
  have hhd : IsHand W.drew b S := hhW
  have hbd : Below w.heap.size w W.drew := ⟨hbel.os, hbel.tape, hbel.output, hbel.size, hbel.block⟩
  go_wp2_with fail
  go_region_with (first
    | (go_at_call 26; refine (keys_any b S s _ ?_ hok).mono ?_; exact hhd; rintro e w1 ⟨rfl, hh1, ho⟩; have hr1 := hrd.away ho hbB; have c1' := ho.cell c1d hne)
    | (go_at_call 40; refine (rkeys_any hr1 hok s).mono ?_; rintro e w2 ⟨rfl, hr2, hb2⟩; have hh2 : IsHand w2 b _ := (hb2.block b hbB).trans hh1; have hbelow := ((hbd.mono hbw).trans (only_below ho (Nat.le_refl _) hsz)).trans (hb2.mono (Nat.le_of_lt hbB))))
  all_goals
    go_wp2_with fail
    go_ret2
    exact ⟨rfl, hh2, hr2, hbelow⟩

set_option maxRecDepth 100000 in
set_option maxHeartbeats 4000000 in
theorem does_2 {w : World} {B b m : Nat} {S : HS} (hh : IsHand w b S) (hr : IsRef w B m S) (hbB : b < B) (hok : S.ok) (t s : Int) (t0 : -9223372036854775808 ≤ t) (t1 : t ≤ 9223372036854775807) (hq : t % 7 = 2) :
    Calls Try.prog 28 #[.pointer (some ⟨b, 0, none⟩), .pointer (some ⟨m, 0, none⟩), .agg #[.int .i64 t, .int .i64 s]] w (DidB B b m (S.callE 2 s) (S.callS 2 s) w) := by
  obtain ⟨vK, vG, K, G, hr⟩ := hr
  have HQ := hide hq
  clear hq
  obtain ⟨W, hW⟩ : ∃ W, W = w.alloc (.cells #[.int .i64 t, .int .i64 s] 27) := ⟨_, rfl⟩
  have hbel : Below w.heap.size w W := by rw [hW]; exact below_alloc1 w _
  have hx : W.heap[w.heap.size]? = some (.cells #[.int .i64 t, .int .i64 s] 27 (0, 0)) := by rw [hW]; show (w.heap.push _)[w.heap.size]? = _; simp
  have c0 : W.cell? ⟨w.heap.size, 0, none⟩ = some (.int .i64 t) := by simp [World.cell?, hx]
  have c1 : W.cell? ⟨w.heap.size, 0 + 1, none⟩ = some (.int .i64 s) := by simp [World.cell?, hx]
  have hlt := hh.lt
  have hhW := hh.keep hbel
  have hrW := hr.keep hbel
  have hne : w.heap.size ≠ b := by omega
  have hbw : b ≤ w.heap.size := by omega
  have hsz : b ≤ W.heap.size := Nat.le_trans hbw hbel.size
  have HW := hide hW
  clear hW hh hr hx
  go_enter Try.func28, Try.ntmps28
  go_wp2_with fail
  rw [← HW.out]
  refine (bring_eq t 7 2 _ t0 t1 (by omega) (by omega) HQ.out).mono ?_; rintro e w' ⟨rfl, rfl⟩
  have c1d : W.drew.cell? ⟨w.heap.size, 0 + 1, none⟩ = some (.int .i64 s) := c1
  have hrd := hrW.drew
  have hhd : IsHand W.drew b S := hhW
  have hbd : Below w.heap.size w W.drew := ⟨hbel.os, hbel.tape, hbel.output, hbel.size, hbel.block⟩
  go_wp2_with fail
  go_region_with (first
    | (go_at_call 29; refine (discard_any b S s _ ?_ hok).mono ?_; exact hhd; rintro e w1 ⟨rfl, hh1, ho⟩; have hr1 := hrd.away ho hbB; have c1' := ho.cell c1d hne)
    | (go_at_call 41; refine (rdisc_any hr1 hok s).mono ?_; rintro e w2 ⟨rfl, hr2, hb2⟩; have hh2 : IsHand w2 b _ := (hb2.block b hbB).trans hh1; have hbelow := ((hbd.mono hbw).trans (only_below ho (Nat.le_refl _) hsz)).trans (hb2.mono (Nat.le_of_lt hbB))))
  all_goals
    go_wp2_with fail
    go_ret2
    exact ⟨rfl, hh2, hr2, hbelow⟩

set_option maxRecDepth 100000 in
set_option maxHeartbeats 4000000 in
theorem does_3 {w : World} {B b m : Nat} {S : HS} (hh : IsHand w b S) (hr : IsRef w B m S) (hbB : b < B) (hok : S.ok) (t s : Int) (t0 : -9223372036854775808 ≤ t) (t1 : t ≤ 9223372036854775807) (hq : t % 7 = 3) :
    Calls Try.prog 28 #[.pointer (some ⟨b, 0, none⟩), .pointer (some ⟨m, 0, none⟩), .agg #[.int .i64 t, .int .i64 s]] w (DidB B b m (S.callE 3 s) (S.callS 3 s) w) := by
  obtain ⟨vK, vG, K, G, hr⟩ := hr
  have HQ := hide hq
  clear hq
  obtain ⟨W, hW⟩ : ∃ W, W = w.alloc (.cells #[.int .i64 t, .int .i64 s] 27) := ⟨_, rfl⟩
  have hbel : Below w.heap.size w W := by rw [hW]; exact below_alloc1 w _
  have hx : W.heap[w.heap.size]? = some (.cells #[.int .i64 t, .int .i64 s] 27 (0, 0)) := by rw [hW]; show (w.heap.push _)[w.heap.size]? = _; simp
  have c0 : W.cell? ⟨w.heap.size, 0, none⟩ = some (.int .i64 t) := by simp [World.cell?, hx]
  have c1 : W.cell? ⟨w.heap.size, 0 + 1, none⟩ = some (.int .i64 s) := by simp [World.cell?, hx]
  have hlt := hh.lt
  have hhW := hh.keep hbel
  have hrW := hr.keep hbel
  have hne : w.heap.size ≠ b := by omega
  have hbw : b ≤ w.heap.size := by omega
  have hsz : b ≤ W.heap.size := Nat.le_trans hbw hbel.size
  have HW := hide hW
  clear hW hh hr hx
  go_enter Try.func28, Try.ntmps28
  go_wp2_with fail
  rw [← HW.out]
  refine (bring_eq t 7 3 _ t0 t1 (by omega) (by omega) HQ.out).mono ?_; rintro e w' ⟨rfl, rfl⟩
  go_wp2_with fail
  refine (validate_any b S _ hhW hok).mono ?_; rintro e w1 ⟨rfl, hh1, ho⟩
  have hr1 := hrW.away ho hbB
  go_wp2_with fail
  refine (rval_any hr1).mono ?_; rintro e w2 ⟨rfl, hr2, hb2⟩
  have hh2 : IsHand w2 b _ := (hb2.block b hbB).trans hh1
  have hbelow := ((hbel.mono hbw).trans (only_below ho (Nat.le_refl _) hsz)).trans (hb2.mono (Nat.le_of_lt hbB))
  go_wp2_with fail
  go_ret2
  exact ⟨rfl, hh2, hr2, hbelow⟩

set_option maxRecDepth 100000 in
set_option maxHeartbeats 4000000 in
theorem does_4 {w : World} {B b m : Nat} {S : HS} (hh : IsHand w b S) (hr : IsRef w B m S) (hbB : b < B) (hok : S.ok) (t s : Int) (t0 : -9223372036854775808 ≤ t) (t1 : t ≤ 9223372036854775807) (hq : t % 7 = 4) :
    Calls Try.prog 28 #[.pointer (some ⟨b, 0, none⟩), .pointer (some ⟨m, 0, none⟩), .agg #[.int .i64 t, .int .i64 s]] w (DidB B b m (S.callE 4 s) (S.callS 4 s) w) := by
  obtain ⟨vK, vG, K, G, hr⟩ := hr
  have HQ := hide hq
  clear hq
  obtain ⟨W, hW⟩ : ∃ W, W = w.alloc (.cells #[.int .i64 t, .int .i64 s] 27) := ⟨_, rfl⟩
  have hbel : Below w.heap.size w W := by rw [hW]; exact below_alloc1 w _
  have hx : W.heap[w.heap.size]? = some (.cells #[.int .i64 t, .int .i64 s] 27 (0, 0)) := by rw [hW]; show (w.heap.push _)[w.heap.size]? = _; simp
  have c0 : W.cell? ⟨w.heap.size, 0, none⟩ = some (.int .i64 t) := by simp [World.cell?, hx]
  have c1 : W.cell? ⟨w.heap.size, 0 + 1, none⟩ = some (.int .i64 s) := by simp [World.cell?, hx]
  have hlt := hh.lt
  have hhW := hh.keep hbel
  have hrW := hr.keep hbel
  have hne : w.heap.size ≠ b := by omega
  have hbw : b ≤ w.heap.size := by omega
  have hsz : b ≤ W.heap.size := Nat.le_trans hbw hbel.size
  have HW := hide hW
  clear hW hh hr hx
  go_enter Try.func28, Try.ntmps28
  go_wp2_with fail
  rw [← HW.out]
  refine (bring_eq t 7 4 _ t0 t1 (by omega) (by omega) HQ.out).mono ?_; rintro e w' ⟨rfl, rfl⟩
  go_wp2_with fail
  refine (confirm_any b S _ hhW hok).mono ?_; rintro e w1 ⟨rfl, hh1, ho⟩
  have hr1 := hrW.away ho hbB
  go_wp2_with fail
  refine (rconf_any hr1 hok).mono ?_; rintro e w2 ⟨rfl, hr2, hb2⟩
  have hh2 : IsHand w2 b _ := (hb2.block b hbB).trans hh1
  have hbelow := ((hbel.mono hbw).trans (only_below ho (Nat.le_refl _) hsz)).trans (hb2.mono (Nat.le_of_lt hbB))
  go_wp2_with fail
  go_ret2
  exact ⟨rfl, hh2, hr2, hbelow⟩

set_option maxRecDepth 100000 in
set_option maxHeartbeats 4000000 in
theorem does_5 {w : World} {B b m : Nat} {S : HS} (hh : IsHand w b S) (hr : IsRef w B m S) (hbB : b < B) (hok : S.ok) (t s : Int) (t0 : -9223372036854775808 ≤ t) (t1 : t ≤ 9223372036854775807) (hq : t % 7 = 5) :
    Calls Try.prog 28 #[.pointer (some ⟨b, 0, none⟩), .pointer (some ⟨m, 0, none⟩), .agg #[.int .i64 t, .int .i64 s]] w (DidB B b m (S.callE 5 s) (S.callS 5 s) w) := by
  obtain ⟨vK, vG, K, G, hr⟩ := hr
  have HQ := hide hq
  clear hq
  obtain ⟨W, hW⟩ : ∃ W, W = w.alloc (.cells #[.int .i64 t, .int .i64 s] 27) := ⟨_, rfl⟩
  have hbel : Below w.heap.size w W := by rw [hW]; exact below_alloc1 w _
  have hx : W.heap[w.heap.size]? = some (.cells #[.int .i64 t, .int .i64 s] 27 (0, 0)) := by rw [hW]; show (w.heap.push _)[w.heap.size]? = _; simp
  have c0 : W.cell? ⟨w.heap.size, 0, none⟩ = some (.int .i64 t) := by simp [World.cell?, hx]
  have c1 : W.cell? ⟨w.heap.size, 0 + 1, none⟩ = some (.int .i64 s) := by simp [World.cell?, hx]
  have hlt := hh.lt
  have hhW := hh.keep hbel
  have hrW := hr.keep hbel
  have hne : w.heap.size ≠ b := by omega
  have hbw : b ≤ w.heap.size := by omega
  have hsz : b ≤ W.heap.size := Nat.le_trans hbw hbel.size
  have HW := hide hW
  clear hW hh hr hx
  go_enter Try.func28, Try.ntmps28
  go_wp2_with fail
  rw [← HW.out]
  refine (bring_eq t 7 5 _ t0 t1 (by omega) (by omega) HQ.out).mono ?_; rintro e w' ⟨rfl, rfl⟩
  have c1d : W.drew.cell? ⟨w.heap.size, 0 + 1, none⟩ = some (.int .i64 s) := c1
  have hrd := hrW.drew
  have hhd : IsHand W.drew b S := hhW
  have hbd : Below w.heap.size w W.drew := ⟨hbel.os, hbel.tape, hbel.output, hbel.size, hbel.block⟩
  go_wp2_with fail
  go_region_with (first
    | (go_at_call 31; refine (answered_any b S s _ ?_ hok).mono ?_; exact hhd; rintro e w1 ⟨rfl, hh1, ho⟩; have hr1 := hrd.away ho hbB; have c1' := ho.cell c1d hne)
    | (go_at_call 44; refine (rans_any hr1 hok s).mono ?_; rintro e w2 ⟨rfl, hr2, hb2⟩; have hh2 : IsHand w2 b _ := (hb2.block b hbB).trans hh1; have hbelow := ((hbd.mono hbw).trans (only_below ho (Nat.le_refl _) hsz)).trans (hb2.mono (Nat.le_of_lt hbB))))
  all_goals
    go_wp2_with fail
    go_ret2
    exact ⟨rfl, hh2, hr2, hbelow⟩
end Go.Proofs.Ytkhjfknmjbffdaa
