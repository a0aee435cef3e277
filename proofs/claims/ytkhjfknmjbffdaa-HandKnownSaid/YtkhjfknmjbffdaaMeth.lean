/-
  The contracts of the handshake's methods: what each answers, and is, by plain functions; of memory nothing but the handshake's own block turns.
-/
import Derived.Test.YtkhjfknmjbffdaaBase
import Derived.Lib.SmallJoins
namespace Go.Proofs.Ytkhjfknmjbffdaa
open Go.RowKit
set_option linter.unusedVariables false
set_option linter.unusedSimpArgs false

/-- w' is w with new blocks and writes to block b alone. -/
structure Only (b : Nat) (w w' : World) : Prop where
  os : w'.os = w.os
  tape : w'.tape = w.tape
  output : w'.output = w.output
  size : w.heap.size ≤ w'.heap.size
  block : ∀ k, k < w.heap.size → k ≠ b → w'.heap[k]? = w.heap[k]?
theorem Only.refl (b : Nat) (w : World) : Only b w w := ⟨rfl, rfl, rfl, Nat.le_refl _, fun _ _ _ => rfl⟩
theorem Only.trans {b : Nat} {a w w' : World} (h : Only b a w) (k : Only b w w') : Only b a w' :=
  ⟨k.os.trans h.os, k.tape.trans h.tape, k.output.trans h.output, Nat.le_trans h.size k.size, fun i hi hne => (k.block i (Nat.lt_of_lt_of_le hi h.size) hne).trans (h.block i hi hne)⟩
theorem Only.setCell {b : Nat} {a w : World} (h : Only b a w) (o : Nat) (u : Value) : Only b a (w.setCell ⟨b, o, none⟩ u) :=
  h.trans ⟨rfl, rfl, rfl, by simp [World.setCell], fun k hk hne => Below.heap_setCell _ _ _ _ hne⟩
theorem Only.of_below {b : Nat} {w w' : World} (h : Below w.heap.size w w') : Only b w w' := ⟨h.os, h.tape, h.output, h.size, fun k hk _ => h.block k hk⟩
theorem Only.below {b B : Nat} {a w w' : World} (h : Below B a w) (k : Only b w w') (hb : B ≤ b) (hB : B ≤ w.heap.size) : Below B a w' :=
  h.trans ⟨k.os, k.tape, k.output, k.size, fun i hi => k.block i (by omega) (by omega)⟩
theorem IsHand.away {w w' : World} {b d : Nat} {S : HS} (h : IsHand w d S) (k : Only b w w') (hne : d ≠ b) : IsHand w' d S := (k.block d h.lt hne).trans h
theorem IsHand.store {w : World} {b o : Nat} {S S' : HS} (h : IsHand w b S) (u : Value) (he : S.cells.setIfInBounds o u = S'.cells) : IsHand (w.setCell ⟨b, o, none⟩ u) b S' := by
  unfold IsHand at h ⊢
  rw [Joins.block_setCell h u, he]
theorem cells_put {S : HS} {s : Int} (h0 : 0 ≤ s) (h1 : s < 3) (x : Int) : S.cells.setIfInBounds (1 + s.toNat) (.int .i64 x) = (S.put s x).cells := by
  obtain rfl | rfl | rfl : s = 0 ∨ s = 1 ∨ s = 2 := by omega
  all_goals
    simp [HS.cells, HS.put]

theorem IsHand.made (w : World) (S : HS) : IsHand (w.alloc (.cells S.cells 54)) w.heap.size S := by
  unfold IsHand
  show (w.heap.push _)[w.heap.size]? = _
  simp

def HS.keysE (S : HS) (s : Int) : Int := if 0 ≤ s ∧ s < 3 then (if S.st s = 2 then 160 else 0) else 9
def HS.keysS (S : HS) (s : Int) : HS := if (0 ≤ s ∧ s < 3) ∧ S.st s = 0 then S.put s 1 else S
def HS.discE (S : HS) (s : Int) : Int := if s = 2 then 2 else S.needs s
def HS.discS (S : HS) (s : Int) : HS := if s ≠ 2 ∧ S.needs s = 0 then S.put s 2 else S
def HS.valS (S : HS) : HS := { S with v := true }
def HS.confS (S : HS) : HS := if S.needs 2 = 0 then { S with v := true, c := true } else S
def HS.ansS (S : HS) (s : Int) : HS := if S.needs s = 0 ∧ s ≠ 0 then { S with an := true } else S
theorem st_in {S : HS} (hok : S.ok) (s : Int) : 0 ≤ S.st s ∧ S.st s ≤ 2 := by
  obtain ⟨a, b, c, d, e, f⟩ := hok
  unfold HS.st; repeat' split <;> omega
theorem ok_put {S : HS} (hok : S.ok) (s x : Int) (h0 : 1 ≤ x) (h1 : x ≤ 2) : (S.put s x).ok := by
  obtain ⟨a, b, c, d, e, f⟩ := hok
  refine ⟨?_, ?_, ?_, ?_, ?_, ?_⟩ <;> simp only [HS.put] <;> split <;> omega
theorem ok_keys {S : HS} (hok : S.ok) (s : Int) : (S.keysS s).ok := by
  unfold HS.keysS; split
  · exact ok_put hok s 1 (by omega) (by omega)
  · exact hok
theorem ok_disc {S : HS} (hok : S.ok) (s : Int) : (S.discS s).ok := by
  unfold HS.discS; split
  · exact ok_put hok s 2 (by omega) (by omega)
  · exact hok
theorem ok_val {S : HS} (hok : S.ok) : S.valS.ok := hok
theorem ok_conf {S : HS} (hok : S.ok) : S.confS.ok := by
  unfold HS.confS; split <;> exact hok
theorem ok_ans {S : HS} (hok : S.ok) (s : Int) : (S.ansS s).ok := by
  unfold HS.ansS; split <;> exact hok
theorem needs_range {S : HS} {s : Int} (h : S.needs s = 0) : 0 ≤ s ∧ s < 3 := by
  unfold HS.needs at h
  by_cases hs : 0 ≤ s ∧ s < 3
  · exact hs
  · rw [if_neg hs] at h; omega

/-- WHAT A METHOD THAT WRITES ANSWERS, and leaves. -/
def Did (b : Nat) (E : Int) (S' : HS) (w : World) (e : Ending) (w' : World) : Prop := e = .returned (.int .i64 E) ∧ IsHand w' b S' ∧ Only b w w'
theorem did_of {b : Nat} {E E' : Int} {S' S'' : HS} {w w' : World} (hE : E' = E) (hS : S'' = S') (h : IsHand w' b S'') (k : Only b w w') : Did b E S' w (.returned (.int .i64 E')) w' := by
  subst hE hS; exact ⟨rfl, h, k⟩

set_option maxHeartbeats 400000 in
theorem lives_any (b : Nat) (S : HS) (s : Int) (w : World) (h : IsHand w b S) (hok : S.ok) :
    Calls Try.prog 12 #[.pointer (some ⟨b, 0, none⟩), .int .i64 s] w fun e w' => e = .returned (.bool (S.lives s)) ∧ w = w' := by
  have hl : S.lives s = (S.needs s == 0) := by
    unfold HS.lives HS.needs
    by_cases hs : 0 ≤ s ∧ s < 3
    · by_cases h1 : S.st s = 1 <;> simp [hs, h1]
    · simp [hs]
  have HL := hide hl
  clear hl
  go_enter Try.func12, Try.ntmps12
  go_wp2_with (go_at_call 32; refine (needs_any b S _ _ h hok).mono ?_; rintro e w' ⟨rfl, rfl⟩)
  go_ret
  exact ⟨by rw [HL.out]; rfl, rfl⟩

set_option maxHeartbeats 400000 in
theorem has_any (b : Nat) (S : HS) (s : Int) (w : World) (h : IsHand w b S) (hok : S.ok) :
    Calls Try.prog 19 #[.pointer (some ⟨b, 0, none⟩), .int .i64 s] w fun e w' => e = .returned (.bool (S.has s)) ∧ w = w' := by
  by_cases hs : 0 ≤ s ∧ s < 3
  · have hc := h.at hs.1 hs.2
    obtain ⟨h0, h1⟩ := hs
    have hd : decide (0 ≤ s ∧ s < 3) = true := by simp; omega
    have hl : S.has s = (S.st s != 0) := by
      unfold HS.has; rw [hd, Bool.true_and]
      by_cases hx : S.st s = 0 <;> simp [hx]
    have HL := hide hl
    clear hl
    go_enter Try.func19, Try.ntmps19
    go_wp2_with (first | (go_at_call 33; refine (nothing_no b S _ h hok).mono ?_; rintro e w' ⟨rfl, rfl⟩) | (go_at_call 35; refine (isSpace_any s _).mono ?_; rintro e w' ⟨rfl, rfl⟩))
    go_ret
    exact ⟨by rw [HL.out]; rfl, rfl⟩
  · have hd : decide (0 ≤ s ∧ s < 3) = false := by simp; omega
    have hl : S.has s = false := by unfold HS.has; rw [hd]; rfl
    have HL := hide hl
    clear hl
    go_enter Try.func19, Try.ntmps19
    go_wp2_with (first | (go_at_call 33; refine (nothing_no b S _ h hok).mono ?_; rintro e w' ⟨rfl, rfl⟩) | (go_at_call 35; refine (isSpace_any s _).mono ?_; rintro e w' ⟨rfl, rfl⟩))
    go_ret
    exact ⟨by rw [HL.out]; rfl, rfl⟩

set_option maxHeartbeats 400000 in
theorem valid_any (b : Nat) (S : HS) (w : World) (h : IsHand w b S) (hok : S.ok) :
    Calls Try.prog 15 #[.pointer (some ⟨b, 0, none⟩)] w fun e w' => e = .returned (.bool S.v) ∧ w = w' := by
  obtain ⟨c0, c1, c2, c3, c4, c5, c6⟩ := h.cells
  go_enter Try.func15, Try.ntmps15
  go_wp2_with (go_at_call 33; refine (nothing_no b S _ h hok).mono ?_; rintro e w' ⟨rfl, rfl⟩)
  go_ret
  exact ⟨rfl, rfl⟩

set_option maxHeartbeats 400000 in
theorem confirmed_any (b : Nat) (S : HS) (w : World) (h : IsHand w b S) (hok : S.ok) :
    Calls Try.prog 16 #[.pointer (some ⟨b, 0, none⟩)] w fun e w' => e = .returned (.bool S.c) ∧ w = w' := by
  obtain ⟨c0, c1, c2, c3, c4, c5, c6⟩ := h.cells
  go_enter Try.func16, Try.ntmps16
  go_wp2_with (go_at_call 33; refine (nothing_no b S _ h hok).mono ?_; rintro e w' ⟨rfl, rfl⟩)
  go_ret
  exact ⟨rfl, rfl⟩

set_option maxHeartbeats 400000 in
theorem sure_any (b : Nat) (S : HS) (w : World) (h : IsHand w b S) (hok : S.ok) :
    Calls Try.prog 14 #[.pointer (some ⟨b, 0, none⟩)] w fun e w' => e = .returned (.bool S.sure) ∧ w = w' := by
  obtain ⟨c0, c1, c2, c3, c4, c5, c6⟩ := h.cells
  obtain ⟨s, hs⟩ : ∃ s, S.sure = s := ⟨_, rfl⟩
  have HS' := hide hs
  unfold HS.sure at hs
  cases h1 : S.sv <;> cases h2 : S.c <;> cases h3 : S.an
  all_goals
    rw [h1] at c0
    rw [h2] at c5
    rw [h3] at c6
    rw [h1, h2, h3] at hs
    have HT := hide hs
    clear hs h1 h2 h3
    go_enter Try.func14, Try.ntmps14
    go_wp2_with (go_at_call 33; refine (nothing_no b S _ h hok).mono ?_; rintro e w' ⟨rfl, rfl⟩)
    go_ret
    exact ⟨by rw [HS'.out, ← HT.out]; rfl, rfl⟩

set_option maxHeartbeats 400000 in
theorem keys_any (b : Nat) (S : HS) (s : Int) (w : World) (h : IsHand w b S) (hok : S.ok) :
    Calls Try.prog 26 #[.pointer (some ⟨b, 0, none⟩), .int .i64 s] w (Did b (S.keysE s) (S.keysS s) w) := by
  by_cases hs : 0 ≤ s ∧ s < 3
  · have hc := h.at hs.1 hs.2
    have hf := h.free (1 + s.toNat)
    have hin := st_in hok s
    by_cases h1 : S.st s = 1
    · have hn : (S.needs s != 160) = true := by unfold HS.needs; rw [if_pos hs, if_pos h1]; decide
      have hE : S.needs s = S.keysE s := by unfold HS.needs HS.keysE; rw [if_pos hs, if_pos h1, if_pos hs, if_neg (by omega)]
      have hS : S = S.keysS s := by unfold HS.keysS; rw [if_neg (fun h => by omega)]
      have H := hide (And.intro hE hS)
      clear hE hS h1
      go_enter Try.func26, Try.ntmps26
      go_wp2_with (go_at_call 32; refine (needs_any b S _ _ h hok).mono ?_; rintro e w' ⟨rfl, rfl⟩)
      go_ret
      exact did_of H.out.1 H.out.2 h (Only.refl _ _)
    · have hn : (S.needs s != 160) = false := by unfold HS.needs; rw [if_pos hs, if_neg h1]; decide
      obtain ⟨h0, h3⟩ := hs
      by_cases h2 : S.st s = 2
      · have k1 : (S.st s == 2) = true := by simp [h2]
        have hE : (160 : Int) = S.keysE s := by unfold HS.keysE; rw [if_pos ⟨h0, h3⟩, if_pos h2]
        have hS : S = S.keysS s := by unfold HS.keysS; rw [if_neg (fun h => by omega)]
        have H := hide (And.intro hE hS)
        clear hE hS h1 h2
        go_enter Try.func26, Try.ntmps26
        go_wp2_with (go_at_call 32; refine (needs_any b S _ _ h hok).mono ?_; rintro e w' ⟨rfl, rfl⟩)
        go_ret
        exact did_of H.out.1 H.out.2 h (Only.refl _ _)
      · have k1 : (S.st s == 2) = false := by simp [h2]
        have hE : (0 : Int) = S.keysE s := by unfold HS.keysE; rw [if_pos ⟨h0, h3⟩, if_neg h2]
        have hS : S.put s 1 = S.keysS s := by unfold HS.keysS; rw [if_pos ⟨⟨h0, h3⟩, by omega⟩]
        have H := hide (And.intro hE hS)
        clear hE hS h1 h2
        go_enter Try.func26, Try.ntmps26
        go_wp2_with (go_at_call 32; refine (needs_any b S _ _ h hok).mono ?_; rintro e w' ⟨rfl, rfl⟩)
        go_ret
        exact did_of H.out.1 H.out.2 (h.store _ (cells_put h0 h3 1)) ((Only.refl _ _).setCell _ _)
  · have hn : (S.needs s != 160) = true := by unfold HS.needs; rw [if_neg hs]; decide
    have hE : S.needs s = S.keysE s := by unfold HS.needs HS.keysE; rw [if_neg hs, if_neg hs]
    have hS : S = S.keysS s := by unfold HS.keysS; rw [if_neg (fun h => hs h.1)]
    have H := hide (And.intro hE hS)
    clear hE hS hs
    go_enter Try.func26, Try.ntmps26
    go_wp2_with (go_at_call 32; refine (needs_any b S _ _ h hok).mono ?_; rintro e w' ⟨rfl, rfl⟩)
    go_ret
    exact did_of H.out.1 H.out.2 h (Only.refl _ _)

set_option maxHeartbeats 400000 in
theorem discard_any (b : Nat) (S : HS) (s : Int) (w : World) (h : IsHand w b S) (hok : S.ok) :
    Calls Try.prog 29 #[.pointer (some ⟨b, 0, none⟩), .int .i64 s] w (Did b (S.discE s) (S.discS s) w) := by
  by_cases h2 : s = 2
  · subst h2
    have hE : (2 : Int) = S.discE 2 := by unfold HS.discE; rw [if_pos rfl]
    have hS : S = S.discS 2 := by unfold HS.discS; rw [if_neg (fun h => h.1 rfl)]
    have H := hide (And.intro hE hS)
    clear hE hS
    go_enter Try.func29, Try.ntmps29
    go_wp2_with (first | (go_at_call 32; refine (needs_any b S _ _ h hok).mono ?_; rintro e w' ⟨rfl, rfl⟩) | (go_at_call 33; refine (nothing_no b S _ h hok).mono ?_; rintro e w' ⟨rfl, rfl⟩))
    go_ret
    exact did_of H.out.1 H.out.2 h (Only.refl _ _)
  · have k2 : (s == 2) = false := by simp [h2]
    have hE : S.needs s = S.discE s := by unfold HS.discE; rw [if_neg h2]
    by_cases hn : S.needs s = 0
    · have hr := needs_range hn
      obtain ⟨r0, r1⟩ := hr
      have hc := h.at r0 r1
      have hf := h.free (1 + s.toNat)
      have kn : (S.needs s != 0) = false := by simp [hn]
      have hS : S.put s 2 = S.discS s := by unfold HS.discS; rw [if_pos ⟨h2, hn⟩]
      have hE0 : 0 = S.discE s := by rw [← hE, hn]
      have H := hide (And.intro hE0 hS)
      clear hE hS hE0 hn h2
      go_enter Try.func29, Try.ntmps29
      go_wp2_with (first | (go_at_call 32; refine (needs_any b S _ _ h hok).mono ?_; rintro e w' ⟨rfl, rfl⟩) | (go_at_call 33; refine (nothing_no b S _ h hok).mono ?_; rintro e w' ⟨rfl, rfl⟩))
      go_ret
      exact did_of H.out.1 H.out.2 (h.store _ (cells_put r0 r1 2)) ((Only.refl _ _).setCell _ _)
    · have kn : (S.needs s != 0) = true := by simp [hn]
      have hS : S = S.discS s := by unfold HS.discS; rw [if_neg (fun h => hn h.2)]
      have H := hide (And.intro hE hS)
      clear hE hS hn h2
      go_enter Try.func29, Try.ntmps29
      go_wp2_with (first | (go_at_call 32; refine (needs_any b S _ _ h hok).mono ?_; rintro e w' ⟨rfl, rfl⟩) | (go_at_call 33; refine (nothing_no b S _ h hok).mono ?_; rintro e w' ⟨rfl, rfl⟩))
      go_ret
      exact did_of H.out.1 H.out.2 h (Only.refl _ _)

set_option maxHeartbeats 400000 in
theorem validate_any (b : Nat) (S : HS) (w : World) (h : IsHand w b S) (hok : S.ok) :
    Calls Try.prog 30 #[.pointer (some ⟨b, 0, none⟩)] w (Did b 0 S.valS w) := by
  obtain ⟨c0, c1, c2, c3, c4, c5, c6⟩ := h.cells
  have hf := h.free 4
  go_enter Try.func30, Try.ntmps30
  go_wp2_with (go_at_call 33; refine (nothing_no b S _ h hok).mono ?_; rintro e w' ⟨rfl, rfl⟩)
  go_ret
  exact did_of rfl rfl (h.store (S' := S.valS) _ (by simp [HS.cells, HS.valS])) ((Only.refl _ _).setCell _ _)

set_option maxHeartbeats 400000 in
theorem confirm_any (b : Nat) (S : HS) (w : World) (h : IsHand w b S) (hok : S.ok) :
    Calls Try.prog 27 #[.pointer (some ⟨b, 0, none⟩)] w (Did b (S.needs 2) S.confS w) := by
  obtain ⟨c0, c1, c2, c3, c4, c5, c6⟩ := h.cells
  have hf4 := h.free 4
  have hf5 := h.free 5
  by_cases hn : S.needs 2 = 0
  · have kn : (S.needs 2 == 0) = true := by simp [hn]
    have hS : ({ S with v := true, c := true } : HS) = S.confS := by unfold HS.confS; rw [if_pos hn]
    have H := hide hS
    clear hS hn
    go_enter Try.func27, Try.ntmps27
    go_wp2_with (go_at_call 32; refine (needs_any b S _ _ h hok).mono ?_; rintro e w' ⟨rfl, rfl⟩)
    go_ret
    exact did_of rfl H.out ((h.store (S' := { S with c := true }) _ (by simp [HS.cells])).store _ (by simp [HS.cells])) (((Only.refl _ _).setCell _ _).setCell _ _)
  · have kn : (S.needs 2 == 0) = false := by simp [hn]
    have hS : S = S.confS := by unfold HS.confS; rw [if_neg hn]
    have H := hide hS
    clear hS hn
    go_enter Try.func27, Try.ntmps27
    go_wp2_with (go_at_call 32; refine (needs_any b S _ _ h hok).mono ?_; rintro e w' ⟨rfl, rfl⟩)
    go_ret
    exact did_of rfl H.out h (Only.refl _ _)

set_option maxHeartbeats 400000 in
theorem answered_any (b : Nat) (S : HS) (s : Int) (w : World) (h : IsHand w b S) (hok : S.ok) :
    Calls Try.prog 31 #[.pointer (some ⟨b, 0, none⟩), .int .i64 s] w (Did b (S.needs s) (S.ansS s) w) := by
  obtain ⟨c0, c1, c2, c3, c4, c5, c6⟩ := h.cells
  have hf := h.free 6
  by_cases hn : S.needs s = 0
  · have kn : (S.needs s == 0) = true := by simp [hn]
    by_cases h0 : s = 0
    · have k0 : (s != 0) = false := by simp [h0]
      have hS : S = S.ansS s := by unfold HS.ansS; rw [if_neg (fun h => h.2 h0)]
      have H := hide hS
      clear hS hn h0
      go_enter Try.func31, Try.ntmps31
      go_wp2_with (go_at_call 32; refine (needs_any b S _ _ h hok).mono ?_; rintro e w' ⟨rfl, rfl⟩)
      go_ret
      exact did_of rfl H.out h (Only.refl _ _)
    · have k0 : (s != 0) = true := by simp [h0]
      have hS : ({ S with an := true } : HS) = S.ansS s := by unfold HS.ansS; rw [if_pos ⟨hn, h0⟩]
      have H := hide hS
      clear hS hn h0
      go_enter Try.func31, Try.ntmps31
      go_wp2_with (go_at_call 32; refine (needs_any b S _ _ h hok).mono ?_; rintro e w' ⟨rfl, rfl⟩)
      go_ret
      exact did_of rfl H.out (h.store _ (by simp [HS.cells])) ((Only.refl _ _).setCell _ _)
  · have kn : (S.needs s == 0) = false := by simp [hn]
    have hS : S = S.ansS s := by unfold HS.ansS; rw [if_neg (fun h => hn h.1)]
    have H := hide hS
    clear hS hn
    go_enter Try.func31, Try.ntmps31
    go_wp2_with (go_at_call 32; refine (needs_any b S _ _ h hok).mono ?_; rintro e w' ⟨rfl, rfl⟩)
    go_ret
    exact did_of rfl H.out h (Only.refl _ _)

set_option maxHeartbeats 400000 in
theorem new_any (sv : Bool) (w : World) :
    Calls Try.prog 10 #[.bool sv] w fun e w' => e = .returned (.pointer (some ⟨w.heap.size, 0, none⟩)) ∧ IsHand w' w.heap.size (HS.start sv) ∧ Below w.heap.size w w' := by
  go_enter Try.func10, Try.ntmps10
  go_wp2
  go_ret
  exact ⟨rfl, IsHand.made w (HS.start sv), by go_grown⟩

set_option maxHeartbeats 400000 in
theorem copy_any (b : Nat) (S : HS) (w : World) (h : IsHand w b S) (hok : S.ok) :
    Calls Try.prog 24 #[.pointer (some ⟨b, 0, none⟩)] w fun e w' => e = .returned (.pointer (some ⟨w.heap.size, 0, none⟩)) ∧ IsHand w' w.heap.size S ∧ Below w.heap.size w w' := by
  obtain ⟨c0, c1, c2, c3, c4, c5, c6⟩ := h.cells
  go_enter Try.func24, Try.ntmps24
  go_wp2_with (go_at_call 33; refine (nothing_no b S _ h hok).mono ?_; rintro e w' ⟨rfl, rfl⟩)
  go_ret
  exact ⟨rfl, IsHand.made w S, by go_grown⟩
end Go.Proofs.Ytkhjfknmjbffdaa
