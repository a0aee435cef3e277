/-
  Lists of events: event.Text, event.Count, each walked once.
-/
import Derived.Test.YtjhkgoppopfoaaaDoorEvl
import Derived.Test.YtjhkgoppopfoaaaDoorSlice
import Derived.Test.YtjhkgoppopfoaaaDoorText
namespace Go.Proofs.YtjhkgoppopfoaaaDoor
open Go.RowKit Go.Lib Go.Maps
set_option linter.unusedVariables false
set_option linter.unusedSimpArgs false

def evAt (z : Nat → Nat → Int) (i : Nat) : Ev := ⟨z i 0, z i 1, z i 2, z i 3⟩
def linesT (z : Nat → Nat → Int) (n : Nat) : Bs := (List.range n).flatMap fun i => lineE (evAt z i)
theorem linesT_succ (z : Nat → Nat → Int) (n : Nat) : linesT z (n + 1) = linesT z n ++ lineE (evAt z n) := by simp [linesT, List.range_succ]
def OkN (z : Nat → Nat → Int) (n : Nat) : Prop := ∀ i, i < n → (evAt z i).ok
theorem lineE_len {e : Ev} (h : e.ok) : (lineE e).length ≤ 75 := by
  have h1 := preL_len h (fds e.k.toNat) (fun f hf => hf)
  have h2 := fds_len e.k.toNat
  unfold lineE
  simp only [List.length_append, List.length_cons, List.length_nil]
  omega
theorem linesT_len {z : Nat → Nat → Int} : ∀ n, OkN z n → (linesT z n).length ≤ 75 * n
  | 0, _ => by simp [linesT]
  | n + 1, h => by
    have h1 := linesT_len n (fun i hi => h i (by omega))
    have h2 := lineE_len (h n (by omega))
    rw [linesT_succ, List.length_append]
    omega
/-- The cells of an event of a list. -/
theorem row_cells {w : World} {a : Option Addr} {len : Nat} {z : Nat → Nat → Int} (h : IsEvs w a len 4 z) {i : Nat} (hi : i < len) :
    ∃ b off, a = some ⟨b, off, none⟩ ∧ w.cell? ⟨b, off + i * 4, none⟩ = some (.int .i64 (z i 0)) ∧ w.cell? ⟨b, off + i * 4 + 1, none⟩ = some (.int .i64 (z i 1)) ∧ w.cell? ⟨b, off + i * 4 + 2, none⟩ = some (.int .i64 (z i 2)) ∧ w.cell? ⟨b, off + i * 4 + 3, none⟩ = some (.int .i64 (z i 3)) ∧ (evAt z i).wf := by
  rcases h.2 with h0 | ⟨b, off, ha, hc⟩
  · omega
  · have h0 := hc i hi 0 (by decide)
    have h1 := hc i hi 1 (by decide)
    have h2 := hc i hi 2 (by decide)
    have h3 := hc i hi 3 (by decide)
    refine ⟨b, off, ha, by simpa using h0.1, h1.1, h2.1, h3.1, ?_⟩
    intro c
    unfold Ev.at
    split
    · exact h0.2
    · exact h1.2
    · exact h2.2
    · exact h3.2
/-- What event.Text answers. -/
def TextR (z : Nat → Nat → Int) (n : Nat) (s : Bs) (er : Int) : Prop := (OkN z n ∧ s = linesT z n ∧ er = 0) ∨ (¬ OkN z n ∧ s = [] ∧ er = 2)
structure EtAt (w wr : World) (b : Nat) (l : Bs) : Prop where
  bld : IsBuilderF 77 5 b b (byteCells l) wr
  hb : w.heap.size ≤ b
  bel : Below w.heap.size w wr
theorem EtAt.keep {w wr w' : World} {b : Nat} {l : Bs} (h : EtAt w wr b l) (hb : Below wr.heap.size wr w') : EtAt w w' b l := ⟨bld_keep h.bld hb, h.hb, below_after h.bel hb⟩
theorem EtAt.write {w wr w' : World} {b : Nat} {l : Bs} {p : Value} {s : ByteArray} {l' : Bs} (h : EtAt w wr b l) (hp : p = .pointer (some ⟨b, 0, none⟩)) (ha : BuilderAtF 77 5 b b p (byteCells l ++ strCells s) w') (hb : Below b wr w') (hl : l' = l ++ s.data.toList) : EtAt w w' b l' := by
  subst hp hl
  refine ⟨?_, h.hb, h.bel.trans (hb.mono h.hb)⟩
  refine Or.inr ?_
  have : byteCells (l ++ s.data.toList) = byteCells l ++ strCells s := by simp [byteCells, strCells]
  rw [this]; exact ha
def EtRel (w : World) (b : Nat) (len : Nat) (z : Nat → Nat → Int) (i : Value) (wr : World) : Prop := ∃ k : Nat, i = .int .i64 (k : Int) ∧ k ≤ len ∧ OkN z k ∧ EtAt w wr b (linesT z k)
set_option maxRecDepth 100000 in
set_option maxHeartbeats 4000000 in
theorem etext_any (a : Option Addr) (len cap : Nat) (z : Nat → Nat → Int) (w : World) (g : Gd w) (h : IsEvs w a len 4 z) (hl : len ≤ 4000) :
    Calls Tryd.prog 28 #[.slice a len cap] w fun e w' => (∃ s er, e = .returned (.tuple #[.string ⟨s.toArray⟩, .int .i64 er]) ∧ TextR z len s er) ∧ Below w.heap.size w w' := by
  have hll : ¬ ((4000 : Int) < (len : Int)) := by omega
  have hbd := below_alloc1 w (.cells #[.pointer none, .slice none 0 0] 77)
  have hI := bld_of (fresh_isBuilder 77 5 w)
  go_enter Tryd.func28, Tryd.ntmps28
  go_wp2_with fail
  obtain ⟨W, hW⟩ : ∃ W, W = w.alloc (.cells #[.pointer none, .slice none 0 0] 77) := ⟨_, rfl⟩
  obtain ⟨b, hbb⟩ : ∃ b, b = w.heap.size := ⟨_, rfl⟩
  have hbw : w.heap.size ≤ b := Nat.le_of_eq hbb.symm
  rw [← hW] at hI hbd ⊢
  rw [← hbb] at hI ⊢
  have hA : EtAt w W b [] := ⟨hI, hbw, hbd⟩
  clear hW hbb hI hbd
  go_loopw [14] (EtRel w b len z) (fun i _ => (len - intOf i).toNat)
  case atStart => exact ⟨0, rfl, by omega, fun i hi => absurd hi (by omega), by simpa [linesT] using hA⟩
  case round =>
    clear hA
    obtain ⟨k, rfl, hk, hok, hA⟩ := hrel
    have hll := linesT_len k hok
    by_cases hlt : k < len
    · obtain ⟨ab, off, rfl, e0, e1, e2, e3, hwf⟩ := row_cells (h.keep hA.bel) hlt
      have hkl : (k : Int) < (len : Int) := by omega
      have hk0 : (0 : Int) ≤ (k : Int) := by omega
      have hA1 := hA.keep (below_alloc1 wr (.cells (evAt z k).cells 52))
      have hq : EvAt (wr.alloc (.cells (evAt z k).cells 52)) wr.heap.size (evAt z k) := heap_at _ rfl
      simp only [Ev.cells, evAt] at hA1 hq
      by_cases hkok : (evAt z k).ok
      · have hL := line_yes (evAt z k) _ (g.keep hA1.bel) hwf hkok
        have hll2 : (lineE ⟨z k 0, z k 1, z k 2, z k 3⟩).length ≤ 75 := lineE_len hkok
        have HK := hide hkok
        simp only [Ev.val, Ev.cells, evAt] at hL
        go_wp2_with fail
        refine hL.mono ?_; rintro x w2 ⟨rfl, hb2⟩
        have hA2 := hA1.keep hb2
        go_wp2_with fail
        refine (Tryd.Builder_WriteString_k b b _ _ _ hA2.bld ?_ (Nat.le_of_lt (bld_lt hA2.bld))).mono ?_
        · simp [byteCells, ByteArray.size]
          omega
        rintro x w3 ⟨rfl, hat, hb3, _⟩
        have hA3 := hA2.write rfl hat hb3 (linesT_succ z k)
        go_wp2_with fail
        go_roundw
        case rel =>
          refine ⟨k + 1, by go_num, by omega, fun i hi => ?_, hA3⟩
          by_cases hik : i < k
          · exact hok i hik
          · obtain rfl : i = k := by omega
            exact HK.out
        case measure => simp [intOf]; omega
      · have hL := line_no (evAt z k) (wr.alloc (.cells (evAt z k).cells 52)) hwf hkok
        have HK := hide hkok
        simp only [Ev.val, Ev.cells, evAt] at hL
        go_wp2_with fail
        refine hL.mono ?_; rintro x w2 ⟨rfl, hb2⟩
        have hA2 := hA1.keep hb2
        go_wp2_with fail
        go_ret2
        exact ⟨⟨[], 2, rfl, Or.inr ⟨fun hx => HK.out (hx k hlt), rfl, rfl⟩⟩, hA2.bel⟩
    · obtain rfl : k = len := by omega
      go_wp2_with fail
      refine (Tryd.Builder_String_any_k b b (linesT z k) _ hA.bld (Nat.le_of_lt (bld_lt hA.bld))).mono ?_; rintro x w4 ⟨rfl, _, hb4, _⟩
      go_wp2_with fail
      go_ret2
      exact ⟨⟨linesT z k, 0, rfl, Or.inl ⟨hok, rfl, rfl⟩⟩, hA.bel.trans (hb4.mono hbw)⟩
end Go.Proofs.YtjhkgoppopfoaaaDoor
