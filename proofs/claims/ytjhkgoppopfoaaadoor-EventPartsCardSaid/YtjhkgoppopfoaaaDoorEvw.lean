/-
  Own lists of events: their cells, and how such a list is read.
-/
import Derived.Test.YtjhkgoppopfoaaaDoorEvg
namespace Go.Proofs.YtjhkgoppopfoaaaDoor
open Go.RowKit Go.Lib
set_option linter.unusedVariables false
set_option linter.unusedSimpArgs false

def flatE (es : List Ev) : List Value := es.flatMap fun e => e.cells.toList
theorem flatE_app (a b : List Ev) : flatE (a ++ b) = flatE a ++ flatE b := by simp [flatE]
theorem flatE_len (es : List Ev) : (flatE es).length = es.length * 4 := by
  induction es with
  | nil => rfl
  | cons e es ih =>
    have : (flatE (e :: es)).length = 4 + (flatE es).length := by
      rw [show flatE (e :: es) = e.cells.toList ++ flatE es from by simp [flatE], List.length_append]
      rfl
    rw [this, ih, List.length_cons]
    omega
theorem flatE_get : ∀ (es : List Ev) (i j : Nat) (e : Ev), es[i]? = some e → j < 4 → (flatE es)[i * 4 + j]? = some (.int .i64 (e.at j))
  | x :: es, 0, j, e, h, hj => by
    simp only [List.getElem?_cons_zero, Option.some.injEq] at h
    subst h
    obtain rfl | rfl | rfl | rfl : j = 0 ∨ j = 1 ∨ j = 2 ∨ j = 3 := by omega
    all_goals rfl
  | x :: es, i + 1, j, e, h, hj => by
    have ih := flatE_get es i j e (by simpa using h) hj
    have e1 : flatE (x :: es) = x.cells.toList ++ flatE es := by simp [flatE]
    have e2 : (i + 1) * 4 + j = x.cells.toList.length + (i * 4 + j) := by simp [Ev.cells]; omega
    rw [e1, e2, List.getElem?_append_right (by omega), Nat.add_sub_cancel_left]
    exact ih
  | [], i, j, e, h, hj => by simp at h
theorem flatE_one {es : List Ev} : ∀ u ∈ flatE es, u.oneCell' = true := by
  intro u hu
  simp only [flatE, List.mem_flatMap] at hu
  obtain ⟨e, _, hu⟩ := hu
  simp only [Ev.cells, List.mem_cons, List.not_mem_nil, or_false] at hu
  obtain rfl | rfl | rfl | rfl := hu
  all_goals rfl
/-- A list as the function of its rows and fields. -/
def zOf (es : List Ev) (i j : Nat) : Int := ((es[i]?).getD Ev.zero).at j
theorem evAt_zOf {es : List Ev} {i : Nat} {e : Ev} (h : es[i]? = some e) : evAt (zOf es) i = e := by simp [evAt, zOf, h, Ev.at]
theorem evs_zOf (es : List Ev) : evs (zOf es) es.length = es := by
  apply List.ext_getElem?
  intro i
  by_cases hi : i < es.length
  · simp only [evs, List.getElem?_map, List.getElem?_range hi, Option.map_some]
    rw [List.getElem?_eq_getElem hi, evAt_zOf (List.getElem?_eq_getElem hi)]
  · rw [List.getElem?_eq_none (by rw [evs_len]; omega), List.getElem?_eq_none (by omega)]
theorem evs_of_own {w : World} {B n : Nat} {v : Value} {es : List Ev} (h : w.ownsRow B 52 4 v n (flatE es)) (hwf : ∀ e ∈ es, e.wf) : es.length = n ∧ ∃ a cap, v = .slice a n cap ∧ IsEvs w a n 4 (zOf es) := by
  have hl : es.length = n := by have := h.1; rw [flatE_len] at this; omega
  refine ⟨hl, ?_⟩
  rcases h.2 with ⟨rfl, rfl⟩ | ⟨g, cap, cur, rfl, hb, hg, hn, hm, hs, ht⟩
  · exact ⟨none, 0, rfl, Nat.zero_le _, Or.inl rfl⟩
  · refine ⟨_, cap, rfl, Nat.le_trans hn hm, Or.inr ⟨g, 0, rfl, fun i hi j hj => ?_⟩⟩
    have hi' : i < es.length := by omega
    have hget := flatE_get es i j _ (List.getElem?_eq_getElem hi') hj
    have hz : zOf es i j = (es[i]'hi').at j := by simp [zOf, hi']
    have hw := hwf _ (List.getElem_mem hi') j
    refine ⟨?_, by rw [hz]; exact hw⟩
    have := h.cells (g := g) rfl _ _ hget
    rw [hz]
    rw [Addr.add_lit] at this
    exact this
end Go.Proofs.YtjhkgoppopfoaaaDoor
