/-
  slices.IndexFunc over the table of rows: a name's place, or -1.
-/
import Derived.Test.YtjhkgoppopfoaaaDoorGood
namespace Go.Proofs.YtjhkgoppopfoaaaDoor
open Go.RowKit Go.Lib
set_option linter.unusedVariables false
set_option linter.unusedSimpArgs false
abbrev RowE := ByteArray × Nat × Nat × Array Value
def encR3 (r : RowE) : List Value := [.string r.1, .func (.func r.2.1) #[] #[], .func (.func r.2.2.1) #[] r.2.2.2]
def rowL (B : Nat) : List RowE := [(⟨#[115, 101, 114, 118, 101, 114]⟩, 67, 97, #[.pointer (some ⟨B, 0, none⟩), .pointer (some ⟨B + 1, 0, none⟩)]), (⟨#[100, 97, 116, 97, 103, 114, 97, 109]⟩, 69, 97, #[.pointer (some ⟨B + 2, 0, none⟩), .pointer (some ⟨B + 3, 0, none⟩)]), (⟨#[102, 105, 114, 115, 116]⟩, 70, 71, #[]), (⟨#[109, 111, 115, 116]⟩, 72, 73, #[]), (⟨#[114, 116, 116]⟩, 74, 97, #[.pointer (some ⟨B + 4, 0, none⟩), .pointer (some ⟨B + 5, 0, none⟩)]), (⟨#[100, 101, 108, 97, 121]⟩, 75, 97, #[.pointer (some ⟨B + 6, 0, none⟩), .pointer (some ⟨B + 7, 0, none⟩)]), (⟨#[101, 120, 112]⟩, 76, 97, #[.pointer (some ⟨B + 8, 0, none⟩), .pointer (some ⟨B + 9, 0, none⟩)]), (⟨#[98, 117, 114, 115, 116]⟩, 77, 78, #[]), (⟨#[114, 111, 111, 109]⟩, 79, 97, #[.pointer (some ⟨B + 10, 0, none⟩), .pointer (some ⟨B + 11, 0, none⟩)]), (⟨#[98, 97, 99, 107, 115]⟩, 80, 97, #[.pointer (some ⟨B + 12, 0, none⟩), .pointer (some ⟨B + 13, 0, none⟩)])]
theorem rowL_cell (B j i : Nat) (v : Value) (hj : j < 10) (hi : (encR3 (rowL B)[j]!)[i]? = some v) : (rowCells B)[j * 3 + i]? = some v := by
  obtain rfl | rfl | rfl | rfl | rfl | rfl | rfl | rfl | rfl | rfl : j = 0 ∨ j = 1 ∨ j = 2 ∨ j = 3 ∨ j = 4 ∨ j = 5 ∨ j = 6 ∨ j = 7 ∨ j = 8 ∨ j = 9 := by omega
  all_goals
    match i, hi with
    | 0, hi => exact hi
    | 1, hi => exact hi
    | 2, hi => exact hi
    | i + 3, hi => simp [encR3] at hi
theorem rowL_name (B j : Nat) (hj : j < 10) : ((rowL B)[j]!).1.data.toList = nm j := by
  obtain rfl | rfl | rfl | rfl | rfl | rfl | rfl | rfl | rfl | rfl : j = 0 ∨ j = 1 ∨ j = 2 ∨ j = 3 ∨ j = 4 ∨ j = 5 ∨ j = 6 ∨ j = 7 ∨ j = 8 ∨ j = 9 := by omega
  all_goals rfl
def placeI (w : Bs) : Int := match place w with | some k => (k : Int) | none => -1
def isNm (s : ByteArray) (r : RowE) : Bool := r.1.data.toList == s.data.toList
theorem idx_place (B : Nat) (s : ByteArray) : idxBy (fun _ y => isNm s y) ((rowL B).take 10) default = placeI s.data.toList := by
  unfold placeI
  cases h : place s.data.toList with
  | none =>
    refine idxBy_miss (fun _ y => isNm s y) (rowL B) 10 default fun j hj => ?_
    have := place_none h j hj
    simp only [isNm, rowL_name B j hj]
    simpa using this
  | some k =>
    obtain ⟨hk, hn⟩ := place_some h
    refine idxBy_hit (fun _ y => isNm s y) (rowL B) 10 k default hk (Nat.le_refl _) ?_ fun j hj => ?_
    · simp only [isNm, rowL_name B k hk, hn]; simp
    · simp only [isNm, rowL_name B j (by omega), ← hn]
      have : nm j ≠ nm k := fun e => by have := nm_inj (by omega) hk e; omega
      simpa using this
set_option maxHeartbeats 1000000 in
theorem pred51 (V A n : Nat) (s : ByteArray) (w : World) (hV : V < w.heap.size) (hA : A < w.heap.size) (h1 : 1 ≤ n) (hv : w.cell? ⟨V, 0, none⟩ = some (.slice (some ⟨A, 0, none⟩) n n)) (ha : w.cell? ⟨A, 0, none⟩ = some (.string s)) :
    PredBelow Tryd.prog 51 #[.pointer (some ⟨V, 0, none⟩)] (fun r => .agg (encR3 r).toArray) (isNm s) w := fun W r hb => by
  have hv' : W.cell? ⟨V, 0, none⟩ = some (.slice (some ⟨A, 0, none⟩) n n) := (hb.cell (p := ⟨V, 0, none⟩) hV).trans hv
  have ha' : W.cell? ⟨A, 0, none⟩ = some (.string s) := (hb.cell (p := ⟨A, 0, none⟩) hA).trans ha
  have hVW : V < W.heap.size := Nat.lt_of_lt_of_le hV hb.size
  have hAW : A < W.heap.size := Nat.lt_of_lt_of_le hA hb.size
  have i0 : (0 : Int) ≤ 0 := by omega
  have i1 : (0 : Int) < (n : Int) := by omega
  obtain ⟨nm, f, g, cap⟩ := r
  show Calls Tryd.prog 51 #[.agg #[.string nm, .func (.func f) #[] #[], .func (.func g) #[] cap], .pointer (some ⟨V, 0, none⟩)] W _
  clear hv ha
  go_enter Tryd.func51, Tryd.ntmps51
  go_wp2
  go_quiet (fail)
  go_wp2
  go_ret
  refine ⟨?_, ?_⟩
  · show Ending.returned (Value.bool (nm.toList == s.toList)) = _
    simp only [isNm, toList_data]
  · exact below_drewN (hb.alloc hb.size _) nq
theorem enters51 : ∀ args w, (callFunc 51 args).run Tryd.prog w = .ok (.enter 51 args) w := enters_of Tryd.func51 (by kernel_rfl) rfl
theorem idx_any (R B V A n : Nat) (s : ByteArray) (w : World) (hR : RowsAt w R B) (hV : V < w.heap.size) (h1 : 1 ≤ n) (hv : w.cell? ⟨V, 0, none⟩ = some (.slice (some ⟨A, 0, none⟩) n n)) (ha : w.cell? ⟨A, 0, none⟩ = some (.string s)) :
    Calls Tryd.prog 50 #[.slice (some ⟨R, 0, none⟩) 10 10, .func (.func 51) #[] #[.pointer (some ⟨V, 0, none⟩)]] w fun e w' => e = .returned (.int .i64 (placeI s.data.toList)) ∧ Below w.heap.size w w' := by
  have h := AnyQ.slices_IndexFunc Tryd.idxFn 3 Tryd.isAgg68 Tryd.sizeOf68 encR3 (fun _ => rfl) (isNm s) 51 #[.pointer (some ⟨V, 0, none⟩)] enters51 R 0 10 10 (rowL B) w
    (pred51 V A n s w hV (block_lt_of_cell ha) h1 hv ha) (Nat.le_refl _) (by decide) (lt_of_heap hR.tab) (fun j hj i v hi => by
      rw [Nat.zero_add, hR.cell]
      exact rowL_cell B j i v hj hi)
  rw [idx_place] at h
  exact h
end Go.Proofs.YtjhkgoppopfoaaaDoor
