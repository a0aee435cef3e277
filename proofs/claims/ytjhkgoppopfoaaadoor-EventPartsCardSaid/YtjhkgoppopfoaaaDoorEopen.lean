/-
  What an argument's slice is: its length and capacity. Parts of a list of events.
-/
import Derived.Test.YtjhkgoppopfoaaaDoorEback
import Derived.Deep.Slices
namespace Go.Proofs.YtjhkgoppopfoaaaDoor
open Go.ChangeShapes Go.WideShapes Go.Deep Go.RowKit Go.Lib
set_option linter.unusedVariables false
set_option linter.unusedSimpArgs false

section
variable {H : Type} {enc : TypeId × Value → H} {P : Program} {w : World} {base : Nat} {spare : Nat → Bool} {held : Bool}
/-- How long an argument's slice is, what it has room for; where it is nil. -/
def SlF (a : Option Addr) (len cap : Nat) : Prop := len ≤ cap ∧ cap ≤ maxLen ∧ (a = none → len = 0 ∧ cap = 0)
theorem slice_facts {t e : TypeId} {a : Option Addr} {len cap : Nat} {d : DataW H} {p : List MemPlace} (ht : P.underlying t = some (.slice e)) (h : DataW.Trod enc P w base spare held t (.slice a len cap) d p) : SlF a len cap := by
  obtain ⟨fuel, hf⟩ := h
  rcases open_slice ht hf with ⟨hcs, _⟩ | ⟨x, l, c, m, n, D, Pl, hcs, hb, hl, hm, hmm, hx, hi⟩
  · simp [Value.cells] at hcs
    obtain ⟨rfl, rfl, rfl⟩ := hcs
    exact ⟨Nat.le_refl _, Nat.zero_le _, fun _ => ⟨rfl, rfl⟩⟩
  · simp [Value.cells] at hcs
    obtain ⟨rfl, rfl, rfl⟩ := hcs
    exact ⟨hl, hm, fun h => by cases h⟩
end
theorem IsEvs.take {w : World} {a : Option Addr} {len n k : Nat} {z : Nat → Nat → Int} (h : IsEvs w a len n z) (hk : k ≤ len) : IsEvs w a k n z := by
  refine ⟨Nat.le_trans hk h.1, ?_⟩
  rcases h.2 with h0 | ⟨b, off, ha, hc⟩
  · exact Or.inl (by omega)
  · exact Or.inr ⟨b, off, ha, fun i hi j hj => hc i (by omega) j hj⟩
theorem IsEvs.drop {w : World} {b off len n k : Nat} {z : Nat → Nat → Int} (h : IsEvs w (some ⟨b, off, none⟩) len n z) (hk : k ≤ len) : IsEvs w (some ⟨b, off + k * n, none⟩) (len - k) n (fun i j => z (k + i) j) := by
  refine ⟨Nat.le_trans (Nat.sub_le _ _) h.1, ?_⟩
  rcases h.2 with h0 | ⟨b', off', ha, hc⟩
  · exact Or.inl (by omega)
  · simp only [Option.some.injEq, Addr.mk.injEq, and_true] at ha
    obtain ⟨rfl, rfl⟩ := ha
    refine Or.inr ⟨b, off + k * n, rfl, fun i hi j hj => ?_⟩
    have := hc (k + i) (by omega) j hj
    rw [show off + k * n + (i * n + j) = off + ((k + i) * n + j) from by rw [Nat.add_mul]; omega]
    exact this
theorem evs_take {es : List Ev} {k : Nat} (hk : k ≤ es.length) : evs (zOf es) k = es.take k := by
  apply List.ext_getElem?
  intro i
  by_cases hi : i < k
  · simp only [evs, List.getElem?_map, List.getElem?_range hi, Option.map_some, List.getElem?_take_of_lt hi]
    rw [List.getElem?_eq_getElem (by omega), evAt_zOf (List.getElem?_eq_getElem (by omega))]
  · rw [List.getElem?_eq_none (by rw [evs_len]; omega), List.getElem?_eq_none (by rw [List.length_take]; omega)]
theorem evs_drop {es : List Ev} {k : Nat} (hk : k ≤ es.length) : evs (fun i j => zOf es (k + i) j) (es.length - k) = es.drop k := by
  apply List.ext_getElem?
  intro i
  by_cases hi : i < es.length - k
  · simp only [evs, List.getElem?_map, List.getElem?_range hi, Option.map_some, List.getElem?_drop]
    rw [List.getElem?_eq_getElem (by omega)]
    have := evAt_zOf (List.getElem?_eq_getElem (l := es) (i := k + i) (by omega))
    rw [← this]
    rfl
  · rw [List.getElem?_eq_none (by rw [evs_len]; omega), List.getElem?_eq_none (by rw [List.length_drop]; omega)]
end Go.Proofs.YtjhkgoppopfoaaaDoor
