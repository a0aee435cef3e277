/-
  A setting that comes in by value, opened.
-/
import Derived.Test.YtjhkgoppopfoaaaDoorGate
namespace Go.Proofs.YtjhkgoppopfoaaaDoor
open Go Go.ChangeShapes Go.WideShapes Go.ChangeAt Go.RowKit Go.Lib
set_option linter.unusedVariables false
set_option linter.unusedSimpArgs false
theorem ten {α : Type} {a : Array α} (h : a.size = 10) : ∃ c0 c1 c2 c3 c4 c5 c6 c7 c8 c9, a = #[c0, c1, c2, c3, c4, c5, c6, c7, c8, c9] := by
  obtain ⟨l⟩ := a
  match l, h with
  | [c0, c1, c2, c3, c4, c5, c6, c7, c8, c9], _ => exact ⟨c0, c1, c2, c3, c4, c5, c6, c7, c8, c9, rfl⟩
set_option maxRecDepth 100000 in
theorem open_conf {H : Type} {enc : TypeId × Value → H} {W : World} {base b0 : Nat} {sp : Nat → Bool} {held : Bool} {r : Reach} {v : Value} {d : DataW H} {p : List MemPlace}
    (hv : Value.okWide Tryd.prog W r b0 24 v) (h : DataW.Trod enc Tryd.prog W base sp held 24 v d p) : ∃ c : Cf, v = c.val ∧ True := by
  obtain ⟨cs, rfl, h2⟩ := okWide_struct Tryd.underlying24 hv
  obtain ⟨c0, c1, c2, c3, c4, c5, c6, c7, c8, c9, rfl⟩ := ten (h2.trans (by kernel_rfl))
  obtain ⟨fuel, hf0⟩ := h
  obtain ⟨xs, m, _, _, _, hlen, hf⟩ := DataW.trod_struct Tryd.underlying24 hf0
  have k3 : Tryd.prog.cellsOf 3 = 1 := by kernel_rfl
  have k4 : Tryd.prog.cellsOf 4 = 1 := by kernel_rfl
  obtain ⟨n0, e0⟩ : ∃ n0 : Bool, [c0] = [Value.bool n0] := by
    have h : DataW.trod enc Tryd.prog W base sp held m 4 ((([c0, c1, c2, c3, c4, c5, c6, c7, c8, c9] : List Value).drop 0).take (Tryd.prog.cellsOf 4)) = xs[0]? := hf 0 { name := "Server", type := 4, offset := 0, embedded := false, tag := "", pkgPath := "", byteOffset := 0 } rfl
    obtain ⟨y, hy⟩ : ∃ y, xs[0]? = some y := ⟨xs[0]'(by rw [hlen]; decide), List.getElem?_eq_getElem _⟩
    rw [hy] at h
    rw [k4] at h
    obtain ⟨n, a, _⟩ := DataW.trod_bool Tryd.underlying4 h
    exact ⟨n, a⟩
  have e0 : c0 = .bool n0 := by simpa using e0
  subst e0
  obtain ⟨n1, e1, w1⟩ : ∃ n1 : Int, [c1] = [Value.int .i64 n1] ∧ (Lit.int .i64 n1).wf = true := by
    have h : DataW.trod enc Tryd.prog W base sp held m 3 ((([.bool n0, c1, c2, c3, c4, c5, c6, c7, c8, c9] : List Value).drop 1).take (Tryd.prog.cellsOf 3)) = xs[1]? := hf 1 { name := "Datagram", type := 3, offset := 1, embedded := false, tag := "", pkgPath := "", byteOffset := 8 } rfl
    obtain ⟨y, hy⟩ : ∃ y, xs[1]? = some y := ⟨xs[1]'(by rw [hlen]; decide), List.getElem?_eq_getElem _⟩
    rw [hy] at h
    rw [k3] at h
    obtain ⟨n, a, _, b⟩ := DataW.trod_int Tryd.underlying3 h
    exact ⟨n, a, b⟩
  have e1 : c1 = .int .i64 n1 := by simpa using e1
  subst e1
  obtain ⟨n2, e2, w2⟩ : ∃ n2 : Int, [c2] = [Value.int .i64 n2] ∧ (Lit.int .i64 n2).wf = true := by
    have h : DataW.trod enc Tryd.prog W base sp held m 3 ((([.bool n0, .int .i64 n1, c2, c3, c4, c5, c6, c7, c8, c9] : List Value).drop 2).take (Tryd.prog.cellsOf 3)) = xs[2]? := hf 2 { name := "First", type := 3, offset := 2, embedded := false, tag := "", pkgPath := "", byteOffset := 16 } rfl
    obtain ⟨y, hy⟩ : ∃ y, xs[2]? = some y := ⟨xs[2]'(by rw [hlen]; decide), List.getElem?_eq_getElem _⟩
    rw [hy] at h
    rw [k3] at h
    obtain ⟨n, a, _, b⟩ := DataW.trod_int Tryd.underlying3 h
    exact ⟨n, a, b⟩
  have e2 : c2 = .int .i64 n2 := by simpa using e2
  subst e2
  obtain ⟨n3, e3, w3⟩ : ∃ n3 : Int, [c3] = [Value.int .i64 n3] ∧ (Lit.int .i64 n3).wf = true := by
    have h : DataW.trod enc Tryd.prog W base sp held m 3 ((([.bool n0, .int .i64 n1, .int .i64 n2, c3, c4, c5, c6, c7, c8, c9] : List Value).drop 3).take (Tryd.prog.cellsOf 3)) = xs[3]? := hf 3 { name := "Most", type := 3, offset := 3, embedded := false, tag := "", pkgPath := "", byteOffset := 24 } rfl
    obtain ⟨y, hy⟩ : ∃ y, xs[3]? = some y := ⟨xs[3]'(by rw [hlen]; decide), List.getElem?_eq_getElem _⟩
    rw [hy] at h
    rw [k3] at h
    obtain ⟨n, a, _, b⟩ := DataW.trod_int Tryd.underlying3 h
    exact ⟨n, a, b⟩
  have e3 : c3 = .int .i64 n3 := by simpa using e3
  subst e3
  obtain ⟨n4, e4, w4⟩ : ∃ n4 : Int, [c4] = [Value.int .i64 n4] ∧ (Lit.int .i64 n4).wf = true := by
    have h : DataW.trod enc Tryd.prog W base sp held m 3 ((([.bool n0, .int .i64 n1, .int .i64 n2, .int .i64 n3, c4, c5, c6, c7, c8, c9] : List Value).drop 4).take (Tryd.prog.cellsOf 3)) = xs[4]? := hf 4 { name := "Rtt", type := 3, offset := 4, embedded := false, tag := "", pkgPath := "", byteOffset := 32 } rfl
    obtain ⟨y, hy⟩ : ∃ y, xs[4]? = some y := ⟨xs[4]'(by rw [hlen]; decide), List.getElem?_eq_getElem _⟩
    rw [hy] at h
    rw [k3] at h
    obtain ⟨n, a, _, b⟩ := DataW.trod_int Tryd.underlying3 h
    exact ⟨n, a, b⟩
  have e4 : c4 = .int .i64 n4 := by simpa using e4
  subst e4
  obtain ⟨n5, e5, w5⟩ : ∃ n5 : Int, [c5] = [Value.int .i64 n5] ∧ (Lit.int .i64 n5).wf = true := by
    have h : DataW.trod enc Tryd.prog W base sp held m 3 ((([.bool n0, .int .i64 n1, .int .i64 n2, .int .i64 n3, .int .i64 n4, c5, c6, c7, c8, c9] : List Value).drop 5).take (Tryd.prog.cellsOf 3)) = xs[5]? := hf 5 { name := "MaxDelay", type := 3, offset := 5, embedded := false, tag := "", pkgPath := "", byteOffset := 40 } rfl
    obtain ⟨y, hy⟩ : ∃ y, xs[5]? = some y := ⟨xs[5]'(by rw [hlen]; decide), List.getElem?_eq_getElem _⟩
    rw [hy] at h
    rw [k3] at h
    obtain ⟨n, a, _, b⟩ := DataW.trod_int Tryd.underlying3 h
    exact ⟨n, a, b⟩
  have e5 : c5 = .int .i64 n5 := by simpa using e5
  subst e5
  obtain ⟨n6, e6, w6⟩ : ∃ n6 : Int, [c6] = [Value.int .i64 n6] ∧ (Lit.int .i64 n6).wf = true := by
    have h : DataW.trod enc Tryd.prog W base sp held m 3 ((([.bool n0, .int .i64 n1, .int .i64 n2, .int .i64 n3, .int .i64 n4, .int .i64 n5, c6, c7, c8, c9] : List Value).drop 6).take (Tryd.prog.cellsOf 3)) = xs[6]? := hf 6 { name := "Exp", type := 3, offset := 6, embedded := false, tag := "", pkgPath := "", byteOffset := 48 } rfl
    obtain ⟨y, hy⟩ : ∃ y, xs[6]? = some y := ⟨xs[6]'(by rw [hlen]; decide), List.getElem?_eq_getElem _⟩
    rw [hy] at h
    rw [k3] at h
    obtain ⟨n, a, _, b⟩ := DataW.trod_int Tryd.underlying3 h
    exact ⟨n, a, b⟩
  have e6 : c6 = .int .i64 n6 := by simpa using e6
  subst e6
  obtain ⟨n7, e7, w7⟩ : ∃ n7 : Int, [c7] = [Value.int .i64 n7] ∧ (Lit.int .i64 n7).wf = true := by
    have h : DataW.trod enc Tryd.prog W base sp held m 3 ((([.bool n0, .int .i64 n1, .int .i64 n2, .int .i64 n3, .int .i64 n4, .int .i64 n5, .int .i64 n6, c7, c8, c9] : List Value).drop 7).take (Tryd.prog.cellsOf 3)) = xs[7]? := hf 7 { name := "Burst", type := 3, offset := 7, embedded := false, tag := "", pkgPath := "", byteOffset := 56 } rfl
    obtain ⟨y, hy⟩ : ∃ y, xs[7]? = some y := ⟨xs[7]'(by rw [hlen]; decide), List.getElem?_eq_getElem _⟩
    rw [hy] at h
    rw [k3] at h
    obtain ⟨n, a, _, b⟩ := DataW.trod_int Tryd.underlying3 h
    exact ⟨n, a, b⟩
  have e7 : c7 = .int .i64 n7 := by simpa using e7
  subst e7
  obtain ⟨n8, e8, w8⟩ : ∃ n8 : Int, [c8] = [Value.int .i64 n8] ∧ (Lit.int .i64 n8).wf = true := by
    have h : DataW.trod enc Tryd.prog W base sp held m 3 ((([.bool n0, .int .i64 n1, .int .i64 n2, .int .i64 n3, .int .i64 n4, .int .i64 n5, .int .i64 n6, .int .i64 n7, c8, c9] : List Value).drop 8).take (Tryd.prog.cellsOf 3)) = xs[8]? := hf 8 { name := "Room", type := 3, offset := 8, embedded := false, tag := "", pkgPath := "", byteOffset := 64 } rfl
    obtain ⟨y, hy⟩ : ∃ y, xs[8]? = some y := ⟨xs[8]'(by rw [hlen]; decide), List.getElem?_eq_getElem _⟩
    rw [hy] at h
    rw [k3] at h
    obtain ⟨n, a, _, b⟩ := DataW.trod_int Tryd.underlying3 h
    exact ⟨n, a, b⟩
  have e8 : c8 = .int .i64 n8 := by simpa using e8
  subst e8
  obtain ⟨n9, e9, w9⟩ : ∃ n9 : Int, [c9] = [Value.int .i64 n9] ∧ (Lit.int .i64 n9).wf = true := by
    have h : DataW.trod enc Tryd.prog W base sp held m 3 ((([.bool n0, .int .i64 n1, .int .i64 n2, .int .i64 n3, .int .i64 n4, .int .i64 n5, .int .i64 n6, .int .i64 n7, .int .i64 n8, c9] : List Value).drop 9).take (Tryd.prog.cellsOf 3)) = xs[9]? := hf 9 { name := "Backs", type := 3, offset := 9, embedded := false, tag := "", pkgPath := "", byteOffset := 72 } rfl
    obtain ⟨y, hy⟩ : ∃ y, xs[9]? = some y := ⟨xs[9]'(by rw [hlen]; decide), List.getElem?_eq_getElem _⟩
    rw [hy] at h
    rw [k3] at h
    obtain ⟨n, a, _, b⟩ := DataW.trod_int Tryd.underlying3 h
    exact ⟨n, a, b⟩
  have e9 : c9 = .int .i64 n9 := by simpa using e9
  subst e9
  exact ⟨⟨n0, n1, n2, n3, n4, n5, n6, n7, n8, n9⟩, rfl, trivial⟩
end Go.Proofs.YtjhkgoppopfoaaaDoor
