/-
  The contracts of call and played: a handshake behind calls is what the plain functions say.
-/
import Derived.Test.YtkhjfknmjbffdaaLive
import Derived.Test.YtkhjfknmjbffdaaSlice
namespace Go.Proofs.Ytkhjfknmjbffdaa
open Go.RowKit Go.Sort
set_option linter.unusedVariables false
set_option linter.unusedSimpArgs false

def HS.callE (S : HS) (k p : Int) : Int := if k ≤ 1 then S.keysE p else if k = 2 then S.discE p else if k = 3 then 0 else if k = 4 then S.needs 2 else S.needs p
def HS.callS (S : HS) (k p : Int) : HS := if k ≤ 1 then S.keysS p else if k = 2 then S.discS p else if k = 3 then S.valS else if k = 4 then S.confS else S.ansS p
theorem ok_call {S : HS} (hok : S.ok) (k p : Int) : (S.callS k p).ok := by
  unfold HS.callS
  repeat' split
  · exact ok_keys hok p
  · exact ok_disc hok p
  · exact ok_val hok
  · exact ok_conf hok
  · exact ok_ans hok p
theorem did_box {b : Nat} {E : Int} {S' : HS} {w : World} {o : Obj} {e : Ending} {w' : World} (h : Did b E S' (w.alloc o) e w') : Did b E S' w e w' :=
  ⟨h.1, h.2.1, (Only.of_below ((Below.refl _ _).alloc (Nat.le_refl _) o)).trans h.2.2⟩
theorem below_alloc1 (w : World) (o : Obj) : Below w.heap.size w (w.alloc o) := (Below.refl _ _).alloc (Nat.le_refl _) _

set_option maxHeartbeats 400000 in
theorem call_0 (b : Nat) (S : HS) (t s p : Int) (w : World) (h : IsHand w b S) (hok : S.ok) (t0 : -9223372036854775808 ≤ t) (t1 : t ≤ 9223372036854775807) (s0 : -9223372036854775808 ≤ s) (s1 : s ≤ 9223372036854775807) (hk : t % 6 = 0) (hp : s % 3 = p) :
    Calls Try.prog 13 #[.pointer (some ⟨b, 0, none⟩), .agg #[.int .i64 t, .int .i64 s]] w (Did b (S.keysE p) (S.keysS p) w) := by
  have H := hide (And.intro hk hp)
  clear hk hp
  have hh := h.keep (below_alloc1 w (.cells #[.int .i64 t, .int .i64 s] 27))
  go_enter Try.func13, Try.ntmps13
  go_wp2_with fail
  refine (bring_eq s 3 p _ s0 s1 (by omega) (by omega) H.out.2).mono ?_; rintro e w' ⟨rfl, rfl⟩
  go_wp2_with fail
  refine (bring_eq t 6 0 _ t0 t1 (by omega) (by omega) H.out.1).mono ?_; rintro e w' ⟨rfl, rfl⟩
  go_wp2_with fail
  refine (keys_any b S p _ hh hok).mono ?_; rintro e w1 ⟨rfl, hd⟩
  go_wp2
  go_ret
  exact did_box ⟨rfl, hd⟩

set_option maxHeartbeats 400000 in
theorem call_1 (b : Nat) (S : HS) (t s p : Int) (w : World) (h : IsHand w b S) (hok : S.ok) (t0 : -9223372036854775808 ≤ t) (t1 : t ≤ 9223372036854775807) (s0 : -9223372036854775808 ≤ s) (s1 : s ≤ 9223372036854775807) (hk : t % 6 = 1) (hp : s % 3 = p) :
    Calls Try.prog 13 #[.pointer (some ⟨b, 0, none⟩), .agg #[.int .i64 t, .int .i64 s]] w (Did b (S.keysE p) (S.keysS p) w) := by
  have H := hide (And.intro hk hp)
  clear hk hp
  have hh := h.keep (below_alloc1 w (.cells #[.int .i64 t, .int .i64 s] 27))
  go_enter Try.func13, Try.ntmps13
  go_wp2_with fail
  refine (bring_eq s 3 p _ s0 s1 (by omega) (by omega) H.out.2).mono ?_; rintro e w' ⟨rfl, rfl⟩
  go_wp2_with fail
  refine (bring_eq t 6 1 _ t0 t1 (by omega) (by omega) H.out.1).mono ?_; rintro e w' ⟨rfl, rfl⟩
  go_wp2_with fail
  refine (keys_any b S p _ hh hok).mono ?_; rintro e w1 ⟨rfl, hd⟩
  go_wp2
  go_ret
  exact did_box ⟨rfl, hd⟩

set_option maxHeartbeats 400000 in
theorem call_2 (b : Nat) (S : HS) (t s p : Int) (w : World) (h : IsHand w b S) (hok : S.ok) (t0 : -9223372036854775808 ≤ t) (t1 : t ≤ 9223372036854775807) (s0 : -9223372036854775808 ≤ s) (s1 : s ≤ 9223372036854775807) (hk : t % 6 = 2) (hp : s % 3 = p) :
    Calls Try.prog 13 #[.pointer (some ⟨b, 0, none⟩), .agg #[.int .i64 t, .int .i64 s]] w (Did b (S.discE p) (S.discS p) w) := by
  have H := hide (And.intro hk hp)
  clear hk hp
  have hh := h.keep (below_alloc1 w (.cells #[.int .i64 t, .int .i64 s] 27))
  go_enter Try.func13, Try.ntmps13
  go_wp2_with fail
  refine (bring_eq s 3 p _ s0 s1 (by omega) (by omega) H.out.2).mono ?_; rintro e w' ⟨rfl, rfl⟩
  go_wp2_with fail
  refine (bring_eq t 6 2 _ t0 t1 (by omega) (by omega) H.out.1).mono ?_; rintro e w' ⟨rfl, rfl⟩
  go_wp2_with fail
  refine (discard_any b S p _ hh hok).mono ?_; rintro e w1 ⟨rfl, hd⟩
  go_wp2
  go_ret
  exact did_box ⟨rfl, hd⟩

set_option maxHeartbeats 400000 in
theorem call_3 (b : Nat) (S : HS) (t s p : Int) (w : World) (h : IsHand w b S) (hok : S.ok) (t0 : -9223372036854775808 ≤ t) (t1 : t ≤ 9223372036854775807) (s0 : -9223372036854775808 ≤ s) (s1 : s ≤ 9223372036854775807) (hk : t % 6 = 3) (hp : s % 3 = p) :
    Calls Try.prog 13 #[.pointer (some ⟨b, 0, none⟩), .agg #[.int .i64 t, .int .i64 s]] w (Did b (0) (S.valS) w) := by
  have H := hide (And.intro hk hp)
  clear hk hp
  have hh := h.keep (below_alloc1 w (.cells #[.int .i64 t, .int .i64 s] 27))
  go_enter Try.func13, Try.ntmps13
  go_wp2_with fail
  refine (bring_eq s 3 p _ s0 s1 (by omega) (by omega) H.out.2).mono ?_; rintro e w' ⟨rfl, rfl⟩
  go_wp2_with fail
  refine (bring_eq t 6 3 _ t0 t1 (by omega) (by omega) H.out.1).mono ?_; rintro e w' ⟨rfl, rfl⟩
  go_wp2_with fail
  refine (validate_any b S _ hh hok).mono ?_; rintro e w1 ⟨rfl, hd⟩
  go_wp2
  go_ret
  exact did_box ⟨rfl, hd⟩

set_option maxHeartbeats 400000 in
theorem call_4 (b : Nat) (S : HS) (t s p : Int) (w : World) (h : IsHand w b S) (hok : S.ok) (t0 : -9223372036854775808 ≤ t) (t1 : t ≤ 9223372036854775807) (s0 : -9223372036854775808 ≤ s) (s1 : s ≤ 9223372036854775807) (hk : t % 6 = 4) (hp : s % 3 = p) :
    Calls Try.prog 13 #[.pointer (some ⟨b, 0, none⟩), .agg #[.int .i64 t, .int .i64 s]] w (Did b (S.needs 2) (S.confS) w) := by
  have H := hide (And.intro hk hp)
  clear hk hp
  have hh := h.keep (below_alloc1 w (.cells #[.int .i64 t, .int .i64 s] 27))
  go_enter Try.func13, Try.ntmps13
  go_wp2_with fail
  refine (bring_eq s 3 p _ s0 s1 (by omega) (by omega) H.out.2).mono ?_; rintro e w' ⟨rfl, rfl⟩
  go_wp2_with fail
  refine (bring_eq t 6 4 _ t0 t1 (by omega) (by omega) H.out.1).mono ?_; rintro e w' ⟨rfl, rfl⟩
  go_wp2_with fail
  refine (confirm_any b S _ hh hok).mono ?_; rintro e w1 ⟨rfl, hd⟩
  go_wp2
  go_ret
  exact did_box ⟨rfl, hd⟩

set_option maxHeartbeats 400000 in
theorem call_5 (b : Nat) (S : HS) (t s p : Int) (w : World) (h : IsHand w b S) (hok : S.ok) (t0 : -9223372036854775808 ≤ t) (t1 : t ≤ 9223372036854775807) (s0 : -9223372036854775808 ≤ s) (s1 : s ≤ 9223372036854775807) (hk : t % 6 = 5) (hp : s % 3 = p) :
    Calls Try.prog 13 #[.pointer (some ⟨b, 0, none⟩), .agg #[.int .i64 t, .int .i64 s]] w (Did b (S.needs p) (S.ansS p) w) := by
  have H := hide (And.intro hk hp)
  clear hk hp
  have hh := h.keep (below_alloc1 w (.cells #[.int .i64 t, .int .i64 s] 27))
  go_enter Try.func13, Try.ntmps13
  go_wp2_with fail
  refine (bring_eq s 3 p _ s0 s1 (by omega) (by omega) H.out.2).mono ?_; rintro e w' ⟨rfl, rfl⟩
  go_wp2_with fail
  refine (bring_eq t 6 5 _ t0 t1 (by omega) (by omega) H.out.1).mono ?_; rintro e w' ⟨rfl, rfl⟩
  go_wp2_with fail
  refine (answered_any b S p _ hh hok).mono ?_; rintro e w1 ⟨rfl, hd⟩
  go_wp2
  go_ret
  exact did_box ⟨rfl, hd⟩

/-- WHAT A CALL ANSWERS, and leaves. -/
theorem call_any (b : Nat) (S : HS) (t s k p : Int) (w : World) (h : IsHand w b S) (hok : S.ok) (t0 : -9223372036854775808 ≤ t) (t1 : t ≤ 9223372036854775807) (s0 : -9223372036854775808 ≤ s) (s1 : s ≤ 9223372036854775807) (hk : t % 6 = k) (hp : s % 3 = p) :
    Calls Try.prog 13 #[.pointer (some ⟨b, 0, none⟩), .agg #[.int .i64 t, .int .i64 s]] w (Did b (S.callE k p) (S.callS k p) w) := by
  obtain rfl | rfl | rfl | rfl | rfl | rfl : k = 0 ∨ k = 1 ∨ k = 2 ∨ k = 3 ∨ k = 4 ∨ k = 5 := by omega
  · exact call_0 b S t s p w h hok t0 t1 s0 s1 hk hp
  · exact call_1 b S t s p w h hok t0 t1 s0 s1 hk hp
  · exact call_2 b S t s p w h hok t0 t1 s0 s1 hk hp
  · exact call_3 b S t s p w h hok t0 t1 s0 s1 hk hp
  · exact call_4 b S t s p w h hok t0 t1 s0 s1 hk hp
  · exact call_5 b S t s p w h hok t0 t1 s0 s1 hk hp

/-- A handshake behind the first so many calls. -/
def playN (S : HS) (z : Nat → Nat → Int) : Nat → HS
  | 0 => S
  | n + 1 => (playN S z n).callS (z n 0 % 6) (z n 1 % 3)
theorem ok_play {S : HS} (hok : S.ok) (z : Nat → Nat → Int) (n : Nat) : (playN S z n).ok := by
  induction n with
  | zero => exact hok
  | succ n ih => exact ok_call ih _ _
theorem ok_start (sv : Bool) : (HS.start sv).ok := by simp [HS.ok, HS.start]
def PRel (w : World) (b len : Nat) (S : HS) (z : Nat → Nat → Int) (i : Value) (wr : World) : Prop :=
  ∃ k : Nat, i = .int .i64 (k : Int) ∧ k ≤ len ∧ k ≤ 60 ∧ IsHand wr b (playN S z k) ∧ Below w.heap.size w wr
theorem Only.cell {b : Nat} {w w' : World} (h : Only b w w') {p : Addr} {v : Value} (hc : w.cell? p = some v) (hne : p.block ≠ b) : w'.cell? p = some v := by
  rw [World.cell?_of_block (w := w) (h.block p.block (block_lt_of_cell hc) hne)]; exact hc
/-- The row's two numbers, in the world at hand. -/
theorem IsRows.row {w wr : World} {a : Option Addr} {len : Nat} {z : Nat → Nat → Int} (hz : IsRows w a len 2 z) (bel : Below w.heap.size w wr) {k : Nat} (hk : k < len) :
    ∃ b off, a = some ⟨b, off, none⟩ ∧ b < w.heap.size ∧ wr.cell? ⟨b, off + k * 2, none⟩ = some (.int .i64 (z k 0)) ∧ wr.cell? ⟨b, off + k * 2 + 1, none⟩ = some (.int .i64 (z k 1)) ∧
      (-9223372036854775808 ≤ z k 0 ∧ z k 0 ≤ 9223372036854775807) ∧ (-9223372036854775808 ≤ z k 1 ∧ z k 1 ≤ 9223372036854775807) := by
  rcases hz.2 with h0 | ⟨b, off, ha, hc⟩
  · omega
  · obtain ⟨c0, b0⟩ := hc k hk 0 (by omega)
    obtain ⟨c1, b1⟩ := hc k hk 1 (by omega)
    exact ⟨b, off, ha, block_lt_of_cell c0, keep_cell bel c0, by rw [Nat.add_assoc]; exact keep_cell bel c1, b0, b1⟩

set_option maxHeartbeats 1000000 in
theorem played_any (sv : Bool) (a : Option Addr) (len cap : Nat) (z : Nat → Nat → Int) (w : World) (hz : IsRows w a len 2 z) :
    Calls Try.prog 18 #[.bool sv, .slice a len cap] w fun e w' => ∃ b, e = .returned (.pointer (some ⟨b, 0, none⟩)) ∧ w.heap.size ≤ b ∧ IsHand w' b (playN (HS.start sv) z (min len 60)) ∧ Below w.heap.size w w' := by
  have hlen := hz.1
  unfold maxLen at hlen
  go_enter Try.func18, Try.ntmps18
  go_wp2_with fail
  refine (new_any sv w).mono ?_; rintro e w1 ⟨rfl, hh, bel⟩
  obtain ⟨b, hb⟩ : ∃ b, b = w.heap.size := ⟨_, rfl⟩
  rw [← hb] at hh ⊢
  have hB : w.heap.size ≤ b := by omega
  clear hb
  have hbl : w.heap.size ≤ w1.heap.size := bel.size
  go_wp2_with fail
  go_loopw [6] (PRel w b len (HS.start sv) z) (fun i _ => (len - (intOf i).toNat))
  case atStart => exact ⟨0, rfl, by omega, by omega, hh, bel⟩
  case round =>
    clear hh bel
    obtain ⟨k, rfl, hk, hk60, hh, bel⟩ := hrel
    by_cases hlt : k < len ∧ k < 60
    · obtain ⟨hlt, hlt60⟩ := hlt
      obtain ⟨bz, off, ha, hbz, c0, c1, ⟨lo0, hi0⟩, ⟨lo1, hi1⟩⟩ := hz.row bel hlt
      subst ha
      have hok := ok_play (ok_start sv) z k
      have hnext : playN (HS.start sv) z (k + 1) = (playN (HS.start sv) z k).callS (z k 0 % 6) (z k 1 % 3) := rfl
      have HN := hide hnext
      clear hnext
      go_wp2_with fail
      refine (call_any b _ (z k 0) (z k 1) _ _ _ hh hok lo0 hi0 lo1 hi1 rfl rfl).mono ?_; rintro e w2 ⟨rfl, hh2, honly⟩
      have bel2 := honly.below bel hB bel.size
      go_wp2_with fail
      go_roundw
      case rel => exact ⟨k + 1, by go_num, by omega, by omega, by rw [HN.out]; exact hh2, bel2⟩
      case measure => simp [intOf]; omega
    · have hmin : k = min len 60 := by omega
      have HM := hide hmin
      clear hmin
      by_cases hlt2 : k < len
      · go_wp2
        go_ret
        exact ⟨b, rfl, hB, by rw [← HM.out]; exact hh, bel⟩
      · go_wp2
        go_ret
        exact ⟨b, rfl, hB, by rw [← HM.out]; exact hh, bel⟩
end Go.Proofs.Ytkhjfknmjbffdaa
