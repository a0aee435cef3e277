/-
  A handshake as plain data; the contracts of the methods that only read it: nothing, isSpace, needs, Lives, Has, Valid, Confirmed, Sure.
-/
import Derived.Test.YtkhjfknmjbffdaaProg
import Derived.WalkKit
import Derived.WalkSpells
import Derived.WalkLawsBesides
import Derived.Handy
import Derived.Below
import Derived.ChangeKeysEq
import Derived.KernelRfl
namespace Go.Proofs.Ytkhjfknmjbffdaa
open Go.RowKit
set_option linter.unusedVariables false
set_option linter.unusedSimpArgs false

theorem hide {p : Prop} (h : p) : Hid p := h
theorem below_after {w W w1 : World} (h : Below w.heap.size w W) (hb : Below W.heap.size W w1) : Below w.heap.size w w1 := h.trans (hb.mono h.size)
theorem keep_cell {W w' : World} {p : Addr} {v : Value} (hb : Below W.heap.size W w') (h : W.cell? p = some v) : w'.cell? p = some v := by
  rw [hb.cell (block_lt_of_cell h)]; exact h

/-! '==' of two arrays of three stages. -/
theorem run_eqA_in (a b c x y z : Int) (w : World) :
    (Op.equal 52 (.agg #[.int .i64 a, .int .i64 b, .int .i64 c]) (.agg #[.int .i64 x, .int .i64 y, .int .i64 z])).run Try.prog w = .ok (a == x && b == y && c == z) w := by
  have hu := Try.underlying50
  have hs : (Try.prog.info? 50).isSome = true := by kernel_rfl
  obtain ⟨i, hi⟩ := Option.isSome_iff_exists.1 hs
  have hc : Try.prog.cellsOf 50 = 1 := by kernel_rfl
  have r3 : List.range 3 = [0, 1, 2] := rfl
  simp only [Op.equal, Op.maxDepth]
  rw [run_equalIn_array w _ _ _ Try.underlying52 hi, hc, r3]
  simp [Op.eqItems, go_sem, hu]
  by_cases h1 : a = x <;> by_cases h2 : b = y <;> by_cases h3 : c = z <;> simp [h1, h2, h3]
theorem run_eqA (a b c x y z : Int) (w : World) :
    (binOp .eql 52 (.agg #[.int .i64 a, .int .i64 b, .int .i64 c]) (.agg #[.int .i64 x, .int .i64 y, .int .i64 z])).run Try.prog w = .ok (.bool (a == x && b == y && c == z)) w := by
  simp only [binOp, Sem.run_bind, run_eqA_in, Result.andThen_ok, Sem.run_pure]

/-- A handshake: whose it is, how far its spaces are (0 none, 1 keys, 2 gone), whether it is validated, confirmed, answered. -/
structure HS where
  sv : Bool
  s0 : Int
  s1 : Int
  s2 : Int
  v : Bool
  c : Bool
  an : Bool
def HS.cells (S : HS) : Array Value := #[.bool S.sv, .int .i64 S.s0, .int .i64 S.s1, .int .i64 S.s2, .bool S.v, .bool S.c, .bool S.an]
def HS.st (S : HS) (i : Int) : Int := if i = 0 then S.s0 else if i = 1 then S.s1 else S.s2
def HS.put (S : HS) (i x : Int) : HS := { S with s0 := if i = 0 then x else S.s0, s1 := if i = 1 then x else S.s1, s2 := if i = 2 then x else S.s2 }
/-- What every handshake is that New has made. -/
def HS.ok (S : HS) : Prop := 1 ≤ S.s0 ∧ S.s0 ≤ 2 ∧ 0 ≤ S.s1 ∧ S.s1 ≤ 2 ∧ 0 ≤ S.s2 ∧ S.s2 ≤ 2
def HS.start (sv : Bool) : HS := ⟨sv, 1, 0, 0, !sv, false, false⟩
def HS.needs (S : HS) (s : Int) : Int := if 0 ≤ s ∧ s < 3 then (if S.st s = 1 then 0 else 160) else 9
def HS.lives (S : HS) (s : Int) : Bool := decide (0 ≤ s ∧ s < 3) && decide (S.st s = 1)
def HS.has (S : HS) (s : Int) : Bool := decide (0 ≤ s ∧ s < 3) && decide (S.st s ≠ 0)
def HS.sure (S : HS) : Bool := S.sv || S.c || S.an

def IsHand (w : World) (b : Nat) (S : HS) : Prop := w.heap[b]? = some (.cells S.cells 54 (0, 0))
theorem IsHand.lt {w : World} {b : Nat} {S : HS} (h : IsHand w b S) : b < w.heap.size := by
  unfold IsHand at h
  rcases Nat.lt_or_ge b w.heap.size with h' | h'
  · exact h'
  · rw [Array.getElem?_eq_none h'] at h; cases h
theorem IsHand.keep {W w' : World} {b : Nat} {S : HS} (h : IsHand W b S) (hb : Below W.heap.size W w') : IsHand w' b S := (hb.block b h.lt).trans h
theorem IsHand.cell {w : World} {b : Nat} {S : HS} (h : IsHand w b S) (i : Nat) : w.cell? ⟨b, i, none⟩ = S.cells[i]? := by
  unfold IsHand at h; simp [World.cell?, h]
theorem IsHand.free {w : World} {b : Nat} {S : HS} (h : IsHand w b S) (i : Nat) : w.frozen? ⟨b, i, none⟩ = false := by
  unfold IsHand at h; simp [World.frozen?, h]
/-- The seven cells. -/
theorem IsHand.cells {w : World} {b : Nat} {S : HS} (h : IsHand w b S) :
    w.cell? ⟨b, 0, none⟩ = some (.bool S.sv) ∧ w.cell? ⟨b, 1, none⟩ = some (.int .i64 S.s0) ∧ w.cell? ⟨b, 2, none⟩ = some (.int .i64 S.s1) ∧ w.cell? ⟨b, 3, none⟩ = some (.int .i64 S.s2) ∧
    w.cell? ⟨b, 4, none⟩ = some (.bool S.v) ∧ w.cell? ⟨b, 5, none⟩ = some (.bool S.c) ∧ w.cell? ⟨b, 6, none⟩ = some (.bool S.an) :=
  ⟨h.cell 0, h.cell 1, h.cell 2, h.cell 3, h.cell 4, h.cell 5, h.cell 6⟩
theorem IsHand.at {w : World} {b : Nat} {S : HS} (h : IsHand w b S) {s : Int} (h0 : 0 ≤ s) (h1 : s < 3) : w.cell? ⟨b, 1 + s.toNat, none⟩ = some (.int .i64 (S.st s)) := by
  obtain rfl | rfl | rfl : s = 0 ∨ s = 1 ∨ s = 2 := by omega
  · exact h.cells.2.1
  · exact h.cells.2.2.1
  · exact h.cells.2.2.2.1

set_option maxHeartbeats 400000 in
theorem nothing_no (b : Nat) (S : HS) (w : World) (h : IsHand w b S) (hok : S.ok) :
    Calls Try.prog 33 #[.pointer (some ⟨b, 0, none⟩)] w fun e w' => e = .returned (.bool false) ∧ w = w' := by
  have q := run_eqA
  have e0 : (S.s0 == 0) = false := beq_eq_false_iff_ne.2 (by have := hok.1; omega)
  obtain ⟨c0, c1, c2, c3, c4, c5, c6⟩ := h.cells
  go_enter Try.func33, Try.ntmps33
  go_wp2
  go_ret
  exact ⟨rfl, rfl⟩

set_option maxHeartbeats 400000 in
theorem isSpace_any (s : Int) (w : World) : Calls Try.prog 35 #[.int .i64 s] w fun e w' => e = .returned (.bool (decide (0 ≤ s ∧ s < 3))) ∧ w = w' := by
  by_cases h0 : 0 ≤ s
  · by_cases h1 : s < 3
    · go_enter Try.func35, Try.ntmps35
      go_wp2
      go_ret
      exact ⟨by simp [h0, h1], rfl⟩
    · go_enter Try.func35, Try.ntmps35
      go_wp2
      go_ret
      exact ⟨by simp; omega, rfl⟩
  · go_enter Try.func35, Try.ntmps35
    go_wp2
    go_ret
    exact ⟨by simp; omega, rfl⟩

set_option maxHeartbeats 400000 in
theorem needs_any (b : Nat) (S : HS) (s : Int) (w : World) (h : IsHand w b S) (hok : S.ok) :
    Calls Try.prog 32 #[.pointer (some ⟨b, 0, none⟩), .int .i64 s] w fun e w' => e = .returned (.int .i64 (S.needs s)) ∧ w = w' := by
  by_cases hs : 0 ≤ s ∧ s < 3
  · obtain ⟨h0, h1⟩ := hs
    have hc := h.at h0 h1
    have hd : decide (0 ≤ s ∧ s < 3) = true := by simp; omega
    by_cases hst : S.st s = 1
    · have e1 : (S.st s != 1) = false := by simp [hst]
      have hn : S.needs s = 0 := by unfold HS.needs; rw [if_pos ⟨h0, h1⟩, if_pos hst]
      have HN := hide hn
      clear hst hn
      go_enter Try.func32, Try.ntmps32
      go_wp2_with (first | (go_at_call 33; refine (nothing_no b S _ h hok).mono ?_; rintro e w' ⟨rfl, rfl⟩) | (go_at_call 35; refine (isSpace_any s _).mono ?_; rintro e w' ⟨rfl, rfl⟩))
      go_ret
      exact ⟨by rw [HN.out]; rfl, rfl⟩
    · have e1 : (S.st s != 1) = true := by simp [hst]
      have hn : S.needs s = 160 := by unfold HS.needs; rw [if_pos ⟨h0, h1⟩, if_neg hst]
      have HN := hide hn
      clear hst hn
      go_enter Try.func32, Try.ntmps32
      go_wp2_with (first | (go_at_call 33; refine (nothing_no b S _ h hok).mono ?_; rintro e w' ⟨rfl, rfl⟩) | (go_at_call 35; refine (isSpace_any s _).mono ?_; rintro e w' ⟨rfl, rfl⟩))
      go_ret
      exact ⟨by rw [HN.out]; rfl, rfl⟩
  · have hd : decide (0 ≤ s ∧ s < 3) = false := by simp; omega
    have hn : S.needs s = 9 := by unfold HS.needs; rw [if_neg hs]
    have HN := hide hn
    clear hs hn
    go_enter Try.func32, Try.ntmps32
    go_wp2_with (first | (go_at_call 33; refine (nothing_no b S _ h hok).mono ?_; rintro e w' ⟨rfl, rfl⟩) | (go_at_call 35; refine (isSpace_any s _).mono ?_; rintro e w' ⟨rfl, rfl⟩))
    go_ret
    exact ⟨by rw [HN.out]; rfl, rfl⟩
end Go.Proofs.Ytkhjfknmjbffdaa
