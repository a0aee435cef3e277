/-
  An argument that is a slice of structs whose fields are whole numbers, opened: each field's cell with its number.
-/
import Derived.Deep.Slices
import Derived.Deep.Fields
import Derived.ChangeSame
import Derived.Below
namespace Go.Proofs.YtjhkgoppopfoaaaDoor
open Go.ChangeShapes Go.WideShapes Go.Deep Go.RowKit

section
variable {H : Type} {enc : TypeId × Value → H} {P : Program} {w : World} {base : Nat} {spare : Nat → Bool} {held : Bool}
/-- The slice is of length 0, or it leads to its rows: field j of row i holds the number z i j. -/
def IsEvs (w : World) (a : Option Addr) (len n : Nat) (z : Nat → Nat → Int) : Prop :=
  len ≤ maxLen ∧ (len = 0 ∨ ∃ b off, a = some ⟨b, off, none⟩ ∧ ∀ i, i < len → ∀ j, j < n → w.cell? ⟨b, off + (i * n + j), none⟩ = some (.int .i64 (z i j)) ∧ -9223372036854775808 ≤ z i j ∧ z i j ≤ 9223372036854775807)

theorem IsEvs.keep {w w' : World} {a : Option Addr} {len n : Nat} {z : Nat → Nat → Int} (h : IsEvs w a len n z) (hb : Below w.heap.size w w') : IsEvs w' a len n z := by
  refine ⟨h.1, ?_⟩
  rcases h.2 with h0 | ⟨b, off, ha, hc⟩
  · exact Or.inl h0
  · refine Or.inr ⟨b, off, ha, fun i hi j hj => ?_⟩
    obtain ⟨h1, h2⟩ := hc i hi j hj
    exact ⟨by rw [hb.cell (block_lt_of_cell h1)]; exact h1, h2⟩

theorem wf_bounds {n : Int} (h : (Lit.int .i64 n).wf = true) : -9223372036854775808 ≤ n ∧ n ≤ 9223372036854775807 := by
  have hmin : IntKind.i64.min = -9223372036854775808 := rfl
  have hmax : IntKind.i64.max = 9223372036854775807 := rfl
  simp only [Lit.wf, Bool.and_eq_true, decide_eq_true_eq] at h
  omega

theorem evs_of_trod {t e it : TypeId} {fs : Array Field} {a : Option Addr} {len cap : Nat} {d : DataW H} {p : List MemPlace} (ht : P.underlying t = some (.slice e)) (he : P.underlying e = some (.struct fs))
    (hone : oneCellFields P fs = true) (hC : P.cellsOf e = fs.size) (hty : fs.all (fun f => f.type == it) = true) (hit : P.underlying it = some (.int .i64)) (hfs : 0 < fs.size)
    (h : DataW.Trod enc P w base spare held t (.slice a len cap) d p) : ∃ z, IsEvs w a len fs.size z := by
  obtain ⟨fuel, hf⟩ := h
  rcases open_slice ht hf with ⟨hcs, _⟩ | ⟨x, l, c, m, n, D, Pl, hcs, hb, hl, hm, hmm, hx, hi⟩
  · simp [Value.cells] at hcs
    obtain ⟨rfl, rfl, rfl⟩ := hcs
    exact ⟨fun _ _ => 0, Nat.zero_le _, Or.inl rfl⟩
  · simp [Value.cells] at hcs
    obtain ⟨rfl, rfl, rfl⟩ := hcs
    have hlm : len ≤ m := by rw [hmm]; split <;> omega
    have each : ∀ i, i < m → ∃ f : Nat → Int, ∀ j, j < fs.size → w.cell? (x.add (i * fs.size + j)) = some (.int .i64 (f j)) ∧ (Lit.int .i64 (f j)).wf = true := by
      intro i him
      obtain ⟨cs', hc, ht'⟩ := hi i him
      rw [hC] at hc
      obtain ⟨ys, n', hn', hy, hlen, hyl, hf⟩ := DataW.trod_struct he ht'
      obtain ⟨_, hcl, hat⟩ := World.cells?_some hc
      refine choose_lt (α := Int) (p := fun j k => w.cell? (x.add (i * fs.size + j)) = some (.int .i64 k) ∧ (Lit.int .i64 k).wf = true) fun j hj => ?_
      have hff : fs[j]? = some fs[j] := Array.getElem?_eq_getElem hj
      obtain ⟨ho, hk⟩ := hone_of hone j fs[j] hff
      have hcell := hat j hj
      have hv : cs'[j]? = some (cs'[j]'(by omega)) := List.getElem?_eq_getElem (by omega)
      have h1 := hf j fs[j] hff
      rw [ho, hk] at h1
      have hone' : (cs'.drop j).take 1 = [cs'[j]'(by omega)] := by
        rw [List.drop_eq_getElem_cons (by omega)]
        rfl
      rw [hone'] at h1
      have hys : ys[j]? = some (ys[j]'(by omega)) := List.getElem?_eq_getElem (by omega)
      have hfi : fs[j].type = it := by
        have := Array.all_eq_true.1 hty j hj
        simpa using this
      obtain ⟨k, e1, _, wk⟩ := DataW.trod_int (by rw [hfi]; exact hit) (h1.trans hys)
      simp at e1
      refine ⟨k, ?_, wk⟩
      rw [← add_add, hcell, hv, e1]
    obtain ⟨z, hz⟩ := choose_lt (α := Nat → Int) (p := fun i f => ∀ j, j < fs.size → w.cell? (x.add (i * fs.size + j)) = some (.int .i64 (f j)) ∧ (Lit.int .i64 (f j)).wf = true) each
    by_cases hl0 : len = 0
    · exact ⟨z, by omega, Or.inl hl0⟩
    · obtain ⟨b, off, spot⟩ := x
      have h0 := (hz 0 (by omega) 0 hfs).1
      have hspot : spot = none := by simpa [Addr.add] using World.cell?_spot h0
      subst hspot
      refine ⟨z, by omega, Or.inr ⟨b, off, rfl, fun i hil j hj => ?_⟩⟩
      obtain ⟨h1, h2⟩ := hz i (by omega) j hj
      refine ⟨?_, wf_bounds h2⟩
      have : (⟨b, off, none⟩ : Addr).add (i * fs.size + j) = ⟨b, off + (i * fs.size + j), none⟩ := by
        unfold Addr.add; split <;> simp_all
      rw [← this]; exact h1
end
end Go.Proofs.YtjhkgoppopfoaaaDoor
