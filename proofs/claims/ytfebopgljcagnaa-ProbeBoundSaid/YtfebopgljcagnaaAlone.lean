/-
  The walk of ProbeAlone: it answers true whatever is left and whatever the two deeds, and turns nothing that was there.
-/
import Derived.Test.YtfebopgljcagnaaDeed
namespace Go.Proofs.Ytfebopgljcagnaa
open Go.RowKit Go.Sort
set_option linter.unusedVariables false
set_option linter.unusedSimpArgs false

theorem hide {p : Prop} (h : p) : Hid p := h
/-- A block that holds a row: two numbers. -/
def Is2 (w : World) (b : Nat) (x y : Int) : Prop := w.cell? ⟨b, 0, none⟩ = some (.int .i64 x) ∧ w.cell? ⟨b, 1, none⟩ = some (.int .i64 y)
theorem Is2.lt {w : World} {b : Nat} {x y : Int} (h : Is2 w b x y) : b < w.heap.size := block_lt_of_cell h.1
theorem Is2.keep {W w' : World} {b : Nat} {x y : Int} (h : Is2 W b x y) (hb : Below W.heap.size W w') : Is2 w' b x y := ⟨keep_cell hb h.1, keep_cell hb h.2⟩
theorem Is2.alloc {w : World} {b : Nat} {x y : Int} (h : Is2 w b x y) (o : Obj) : Is2 (w.alloc o) b x y := h.keep (below_alloc1 w o)
theorem Is2.made (w : World) (x y : Int) (t : TypeId) : Is2 (w.alloc (.cells #[.int .i64 x, .int .i64 y] t)) w.heap.size x y := by
  refine ⟨?_, ?_⟩ <;> simp [go_sem]
theorem bring_below (i n v : Int) (w : World) (i0 : -9223372036854775808 ≤ i) (i1 : i ≤ 9223372036854775807) (n0 : 0 < n) (n1 : n ≤ 9223372036854775807) (h : i % n = v) :
    Calls Try.prog 23 #[.int .i64 i, .int .i64 n] w fun e w' => e = .returned (.int .i64 v) ∧ Below w.heap.size w w' :=
  (bring_eq i n v w i0 i1 n0 n1 h).mono fun e w' ⟨he, hw⟩ => ⟨he, hw ▸ Below.refl _ _⟩

theorem bring_b (i n : Int) (w : World) (i0 : -9223372036854775808 ≤ i) (i1 : i ≤ 9223372036854775807) (n0 : 0 < n) (n1 : n ≤ 9223372036854775807) :
    Calls Try.prog 23 #[.int .i64 i, .int .i64 n] w fun e w' => e = .returned (.int .i64 (i % n)) ∧ Below w.heap.size w w' := bring_below i n _ w i0 i1 n0 n1 rfl

theorem get_set_ne (x y z s v i : Int) (h : i ≠ s) (i0 : 0 ≤ i) (i1 : i < 3) : getS (setA x s v) (setB y s v) (setC z s v) i = getS x y z i := by
  unfold getS setA setB setC
  obtain rfl | rfl | rfl : i = 0 ∨ i = 1 ∨ i = 2 := by omega
  · simp; intro h'; exact absurd h'.symm h
  · simp; intro h'; exact absurd h'.symm h
  · simp; intro h'; exact absurd h'.symm h
theorem set_commA (x a b u v : Int) (h : a ≠ b) : setA (setA x a u) b v = setA (setA x b v) a u := by unfold setA; repeat' split <;> omega
theorem set_commB (x a b u v : Int) (h : a ≠ b) : setB (setB x a u) b v = setB (setB x b v) a u := by unfold setB; repeat' split <;> omega
theorem set_commC (x a b u v : Int) (h : a ≠ b) : setC (setC x a u) b v = setC (setC x b v) a u := by unfold setC; repeat' split <;> omega

/-- What a deed answers, in one form: the numbers P, the error E. -/
structure Deeds (X Y Z a d P0 P1 P2 E : Int) : Prop where
  cases : (E = 0 ∧ bad d (getS X Y Z a) = false ∧ P0 = setA X a (nv d (getS X Y Z a)) ∧ P1 = setB Y a (nv d (getS X Y Z a)) ∧ P2 = setC Z a (nv d (getS X Y Z a))) ∨ (E = 5 ∧ bad d (getS X Y Z a) = true ∧ P0 = 0 ∧ P1 = 0 ∧ P2 = 0)
theorem deeds_ex (X Y Z a d : Int) : ∃ P0 P1 P2 E, Deeds X Y Z a d P0 P1 P2 E := by
  cases h : bad d (getS X Y Z a)
  · exact ⟨_, _, _, _, ⟨Or.inl ⟨rfl, h, rfl, rfl, rfl⟩⟩⟩
  · exact ⟨_, _, _, _, ⟨Or.inr ⟨rfl, h, rfl, rfl, rfl⟩⟩⟩
theorem deed_of {X Y Z a d P0 P1 P2 E : Int} (D : Deeds X Y Z a d P0 P1 P2 E) (t s : Int) (w : World) (h : ok3 X Y Z) (t0 : -9223372036854775808 ≤ t) (t1 : t ≤ 9223372036854775807) (s0 : -9223372036854775808 ≤ s) (s1 : s ≤ 9223372036854775807) (hk : s % 3 = a) (hd : t % 4 = d) :
    Calls Try.prog 24 #[.agg #[.int .i64 X, .int .i64 Y, .int .i64 Z], .agg #[.int .i64 t, .int .i64 s]] w fun e w' =>
      e = .returned (.tuple #[.agg #[.int .i64 P0, .int .i64 P1, .int .i64 P2], .int .i64 E]) ∧ Below w.heap.size w w' := by
  rcases D.cases with ⟨rfl, hb, rfl, rfl, rfl⟩ | ⟨rfl, hb, rfl, rfl, rfl⟩
  · exact deed_any X Y Z t s a d w h t0 t1 s0 s1 hk hd hb
  · exact deed_bad X Y Z t s a d w h t0 t1 s0 s1 hk hd hb
theorem Deeds.away {X Y Z a d P0 P1 P2 E : Int} (D : Deeds X Y Z a d P0 P1 P2 E) (hE : E = 0) (i : Int) (h : i ≠ a) (i0 : 0 ≤ i) (i1 : i < 3) : getS P0 P1 P2 i = getS X Y Z i := by
  rcases D.cases with ⟨_, hb, rfl, rfl, rfl⟩ | ⟨h5, _⟩
  · exact get_set_ne X Y Z a _ i h i0 i1
  · omega
theorem Deeds.ok {X Y Z a d P0 P1 P2 E : Int} (D : Deeds X Y Z a d P0 P1 P2 E) (hE : E = 0) (h : ok3 X Y Z) (d0 : 0 ≤ d) (d1 : d < 4) : ok3 P0 P1 P2 := by
  rcases D.cases with ⟨_, hb, rfl, rfl, rfl⟩ | ⟨h5, _⟩
  · have g := get_in (s := a) h
    have n := nv_in d0 d1 g.1 g.2 hb
    exact ok_set a h n.1 n.2
  · omega
/-- Two deeds of two spaces can be turned round. -/
theorem Deeds.turn {X Y Z a b d f P0 P1 P2 E Q0 Q1 Q2 F : Int} (D : Deeds X Y Z a d P0 P1 P2 E) (G : Deeds X Y Z b f Q0 Q1 Q2 F) (hE : E = 0) (hF : F = 0) (hab : a ≠ b) (a0 : 0 ≤ a) (a1 : a < 3) (b0 : 0 ≤ b) (b1 : b < 3) :
    ∃ U0 U1 U2, Deeds P0 P1 P2 b f U0 U1 U2 0 ∧ Deeds Q0 Q1 Q2 a d U0 U1 U2 0 := by
  have e1 := D.away hE b (fun h => hab h.symm) b0 b1
  have e2 := G.away hF a hab a0 a1
  rcases D.cases with ⟨_, hb, hP⟩ | ⟨h5, _⟩
  · rcases G.cases with ⟨_, hb', hQ⟩ | ⟨h5, _⟩
    · refine ⟨setA P0 b (nv f (getS X Y Z b)), setB P1 b (nv f (getS X Y Z b)), setC P2 b (nv f (getS X Y Z b)), ⟨Or.inl ⟨rfl, by rw [e1]; exact hb', by rw [e1], by rw [e1], by rw [e1]⟩⟩, ⟨Or.inl ⟨rfl, by rw [e2]; exact hb, ?_, ?_, ?_⟩⟩⟩
      · rw [e2, hP.1, hQ.1]; exact set_commA _ _ _ _ _ hab
      · rw [e2, hP.2.1, hQ.2.1]; exact set_commB _ _ _ _ _ hab
      · rw [e2, hP.2.2, hQ.2.2]; exact set_commC _ _ _ _ _ hab
    · omega
  · omega
end Go.Proofs.Ytfebopgljcagnaa
