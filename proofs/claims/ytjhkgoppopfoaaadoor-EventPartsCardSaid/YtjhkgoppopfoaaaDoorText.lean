/-
  The contract of Text: a setting's text, or the error of Check.
-/
import Derived.Test.YtjhkgoppopfoaaaDoorGood
import Derived.Deep.RegionWith
import Derived.Deep.RegionHeld3
namespace Go.Proofs.YtjhkgoppopfoaaaDoor
open Go.RowKit Go.Lib
set_option linter.unusedVariables false
set_option linter.unusedSimpArgs false
theorem bld_keep {w w' : World} {B b : Nat} {bs : List Value} (h : IsBuilderF 77 5 B b bs w) (hb : Below w.heap.size w w') : IsBuilderF 77 5 B b bs w' := by
  have key : ∀ p, BuilderAtF 77 5 B b p bs w → BuilderAtF 77 5 B b p bs w' := by
    rintro p ⟨hB, v, hv, hown, hne⟩
    refine ⟨hB, v, keep_heap hb hv, ?_, hne⟩
    obtain ⟨hl, h | ⟨g, cap, cur, fz, hv, hB, hg, r⟩⟩ := hown
    · exact ⟨hl, Or.inl h⟩
    · exact ⟨hl, Or.inr ⟨g, cap, cur, fz, hv, hB, keep_heap hb hg, r⟩⟩
  exact h.imp (key _) (key _)
theorem bld_of {T e : TypeId} {B b : Nat} {bs : List Value} {w : World} (h : IsBuilder T e B b bs w) : IsBuilderF T e B b bs w := h.imp BuilderAtF.of BuilderAtF.of
theorem others_keep {w w' : World} {b k : Nat} {bs : List Value} {cs : Array Value} {t : TypeId} {fz : Nat × Nat} (ho : OthersKept 5 (some b) w w') (hI : IsBuilderF 77 5 b b bs w) (hk : w.heap[k]? = some (.cells cs t fz)) (h5 : t ≠ 5) (h77 : t ≠ 77) : w'.heap[k]? = some (.cells cs t fz) := by
  refine ho k _ hk ?_ ?_
  · intro e
    have : k = b := by simpa using e
    subst this
    rcases hI with ⟨_, v, hv, _⟩ | ⟨_, v, hv, _⟩
    · rw [hk] at hv; cases hv; exact h77 rfl
    · rw [hk] at hv; cases hv; exact h77 rfl
  · intro c f e
    cases e
    exact h5 rfl
/-- What stays through Text's loop: the setting's fields x, the table R, the builder b, that holds l. -/
structure TxAt (w wr : World) (x R B b : Nat) (c : Cf) (l : Bs) : Prop where
  fld : IsFld wr x c (b2i c.sv)
  rows : RowsAt wr R B
  bld : IsBuilderF 77 5 b b (byteCells l) wr
  hb : w.heap.size ≤ b
  gd : Gd wr
  bel : Below w.heap.size w wr
theorem TxAt.keep {w wr w' : World} {x R B b : Nat} {c : Cf} {l : Bs} (h : TxAt w wr x R B b c l) (hb : Below wr.heap.size wr w') : TxAt w w' x R B b c l :=
  ⟨h.fld.keep hb, h.rows.keep hb, bld_keep h.bld hb, h.hb, h.gd.keep hb, below_after h.bel hb⟩
theorem TxAt.write {w wr w' : World} {x R B b : Nat} {c : Cf} {l : Bs} {p : Value} {s : ByteArray} {l' : Bs} (h : TxAt w wr x R B b c l) (hp : p = .pointer (some ⟨b, 0, none⟩)) (ha : BuilderAtF 77 5 b b p (byteCells l ++ strCells s) w') (hb : Below b wr w') (ho : OthersKept 5 (some b) wr w') (gz : 8 ≤ b) (hl : l' = l ++ s.data.toList) : TxAt w w' x R B b c l' := by
  subst hp hl
  refine ⟨⟨others_keep ho h.bld h.fld.blk (by decide) (by decide)⟩, ⟨others_keep ho h.bld h.rows.tab (by decide) (by decide), others_keep ho h.bld h.rows.c0 (by decide) (by decide), others_keep ho h.bld h.rows.c1 (by decide) (by decide), others_keep ho h.bld h.rows.c2 (by decide) (by decide), others_keep ho h.bld h.rows.c3 (by decide) (by decide), others_keep ho h.bld h.rows.c4 (by decide) (by decide), others_keep ho h.bld h.rows.c5 (by decide) (by decide), others_keep ho h.bld h.rows.c6 (by decide) (by decide), others_keep ho h.bld h.rows.c7 (by decide) (by decide), others_keep ho h.bld h.rows.c8 (by decide) (by decide), others_keep ho h.bld h.rows.c9 (by decide) (by decide), others_keep ho h.bld h.rows.c10 (by decide) (by decide), others_keep ho h.bld h.rows.c11 (by decide) (by decide), others_keep ho h.bld h.rows.c12 (by decide) (by decide), others_keep ho h.bld h.rows.c13 (by decide) (by decide)⟩, ?_, h.hb, h.gd.keepB hb gz, h.bel.trans (hb.mono h.hb)⟩
  refine Or.inr ?_
  have : byteCells (l ++ s.data.toList) = byteCells l ++ strCells s := by simp [byteCells, strCells]
  rw [this]; exact ha
def preT (c : Cf) (k : Nat) : Bs := (List.range k).flatMap fun j => rowT c j ++ [10]
theorem preT_succ (c : Cf) (k : Nat) : preT c (k + 1) = preT c k ++ (rowT c k ++ [10]) := by simp [preT, List.range_succ]
theorem preT_all (c : Cf) : preT c 10 = textC c := rfl
def TxRel (w : World) (x R B b : Nat) (c : Cf) (i : Value) (wr : World) : Prop := ∃ k : Nat, i = .int .i64 (k : Int) ∧ k ≤ 10 ∧ TxAt w wr x R B b c (preT c k)
theorem preT_len {c : Cf} (h : c.ok) : ∀ k, k ≤ 10 → (preT c k).length ≤ 26 * k
  | 0, _ => by simp [preT]
  | k + 1, hk => by
    have := preT_len h k (by omega)
    have := rowT_len h (k := k) (by omega)
    rw [preT_succ]
    simp only [List.length_append, List.length_cons, List.length_nil]
    omega
theorem cell_of {w : World} {b i : Nat} {cs : Array Value} {t : TypeId} {f : Nat × Nat} {v : Value} (h : w.heap[b]? = some (.cells cs t f)) (hi : cs[i]? = some v) : w.cell? ⟨b, i, none⟩ = some v := by simp only [World.cell?, h]; exact hi
theorem below_drew1 (w : World) : Below w.heap.size w w.drew := ⟨rfl, rfl, rfl, Nat.le_refl _, fun _ _ => rfl⟩
theorem drew_cell {w : World} {p : Addr} {v : Value} (h : w.cell? p = some v) : w.drew.cell? p = some v := h
theorem drew_heap {w : World} {b : Nat} {o : Obj} (h : w.heap[b]? = some o) : w.drew.heap[b]? = some o := h
theorem bld_lt {w : World} {B b : Nat} {bs : List Value} (h : IsBuilderF 77 5 B b bs w) : b < w.heap.size := by
  rcases h with ⟨_, v, hv, _⟩ | ⟨_, v, hv, _⟩ <;> exact lt_of_heap hv
theorem wr_row (c : Cf) (k : Nat) (l : Bs) (N : Int) (hl : nm k = l) (hN : c.num k = N) : preT c (k + 1) = preT c k ++ ((((⟨l.toArray⟩ : ByteArray) ++ ⟨#[32]⟩) ++ ⟨(itoa N).toArray⟩) ++ ⟨#[10]⟩).data.toList := by
  rw [preT_succ]
  subst hl
  simp [rowT, hN]
theorem wr_len {c : Cf} {k m : Nat} {N : Int} {a : Array UInt8} (h : (preT c k).length ≤ m) (hil : (itoa N).length ≤ 21) (hm : m + a.size + 23 ≤ 140737488355328) : (byteCells (preT c k)).length + ((((⟨a⟩ : ByteArray) ++ ⟨#[32]⟩) ++ ⟨(itoa N).toArray⟩) ++ ⟨#[10]⟩).size ≤ 140737488355328 := by
  have e : ((((⟨a⟩ : ByteArray) ++ ⟨#[32]⟩) ++ ⟨(itoa N).toArray⟩) ++ ⟨#[10]⟩).size = a.size + 1 + (itoa N).length + 1 := by simp [ByteArray.size]; omega
  rw [e]
  simp only [byteCells, List.length_map]
  omega
theorem fld_srv {w : World} {b : Nat} {c : Cf} {n m : Int} (h : IsFld w b c n) (e : n = m) : w.cell? ⟨b, 10, none⟩ = some (.int .i64 m) := by rw [← e]; exact h.srv
theorem itoa_len (n : Int) (h0 : -9223372036854775808 ≤ n) (h1 : n ≤ 9223372036854775807) : (itoa n).length ≤ 21 := itoa_length_le n h0 h1
set_option maxRecDepth 100000 in
set_option maxHeartbeats 8000000 in
theorem text_yes (c : Cf) (w : World) (g : Gd w) (hok : c.ok) : Calls Tryd.prog 19 #[c.val] w fun e w' => e = .returned (.tuple #[.string ⟨(textC c).toArray⟩, .int .i64 0]) ∧ Below w.heap.size w w' := by
  have s65 : ∀ w, (Go.sizeOf 65).run Tryd.prog w = .ok 1 w := fun _ => by kernel_rfl
  have s66 : ∀ w, (Go.sizeOf 66).run Tryd.prog w = .ok 1 w := fun _ => by kernel_rfl
  have he : errOf c = 0 := by unfold errOf; rw [if_pos hok]
  have hb0 := below_alloc1 w (.cells c.cells 24)
  have hp0 : IsCf (w.alloc (.cells c.cells 24)) w.heap.size c := IsCf.of_block (heap_at _ rfl)
  have hk := check_any c (w.alloc (.cells c.cells 24))
  rw [he] at hk
  have HOK := hide hok
  obtain ⟨hr1, hr2, hr3, hr4, hr5, hr6, hr7, hr8, hr9⟩ := hok
  clear he
  go_enter Tryd.func19, Tryd.ntmps19
  simp only [Cf.val, Cf.cells] at hb0 hp0 hk ⊢
  go_wp2_with fail
  refine hk.mono ?_; rintro e w1 ⟨rfl, hb1⟩
  clear hk
  have hp1 := hp0.keep hb1
  have bel1 := below_after hb0 hb1
  clear hb0 hb1 hp0
  obtain ⟨p, hp⟩ : ∃ p, w.heap.size = p := ⟨_, rfl⟩
  have hw8 := g.sz
  have HP := hide hp
  rw [hp] at hp1 ⊢
  clear hp
  have g1 := g.keep bel1
  have hbd := below_alloc1 w1 (.cells #[.pointer none, .slice none 0 0] 77)
  have hI := bld_of (fresh_isBuilder 77 5 w1)
  have hp2 := hp1.keep hbd
  have bel2 := below_after bel1 hbd
  have g2 := g1.keep hbd
  have hbw : w.heap.size ≤ w1.heap.size := bel1.size
  obtain ⟨q0, q1, q2, q3, q4, q5, q6, q7, q8, q9⟩ := hp2
  go_wp2_with fail
  obtain ⟨W2, hW2⟩ : ∃ W, W = w1.alloc (.cells #[.pointer none, .slice none 0 0] 77) := ⟨_, rfl⟩
  obtain ⟨b, hbb⟩ : ∃ b, b = w1.heap.size := ⟨_, rfl⟩
  rw [← hW2] at hI bel2 g2 ⊢
  rw [← hbb] at hI hbw ⊢
  clear hW2 hbb q0 q1 q2 q3 q4 q5 q6 q7 q8 q9 hbd hp1 bel1 g1 g
  refine (opened_any c _).mono ?_; rintro e w2 ⟨x, rfl, hx, hf, hb2⟩
  replace hI := bld_keep hI hb2
  replace bel2 := below_after bel2 hb2
  replace g2 := g2.keep hb2
  clear hb2 hx
  go_wp2_with fail
  refine (rows_any _).mono ?_; rintro e w3 ⟨R, rfl, hR, ⟨B, hrows⟩, hb3⟩
  have hA : TxAt w w3 x R B b c (preT c 0) := ⟨hf.keep hb3, hrows, bld_keep hI hb3, hbw, g2.keep hb3, below_after bel2 hb3⟩
  clear hf hrows hI hb3 hR bel2 g2
  obtain ⟨x0, hx0⟩ : ∃ x0, b2i c.sv = x0 := ⟨_, rfl⟩
  have hx0b : 0 ≤ x0 ∧ x0 ≤ 1 := by rw [← hx0]; unfold b2i; split <;> omega
  have hx0' := hide hx0
  clear hx0
  go_wp2_with fail
  go_loopw [18] (TxRel w x R B b c) (fun i _ => (10 - intOf i).toNat)
  case atStart => exact ⟨0, rfl, by omega, hA⟩
  case round =>
    clear hA
    obtain ⟨k, rfl, hk, hA⟩ := hrel
    have hpl := preT_len HOK.out k hk
    obtain rfl | rfl | rfl | rfl | rfl | rfl | rfl | rfl | rfl | rfl | rfl : k = 0 ∨ k = 1 ∨ k = 2 ∨ k = 3 ∨ k = 4 ∨ k = 5 ∨ k = 6 ∨ k = 7 ∨ k = 8 ∨ k = 9 ∨ k = 10 := by omega
    · obtain ⟨q0, q1, q2⟩ := hA.rows.r0
      have hA1 := hA.keep (below_alloc1 _ (.cells #[.string ⟨#[115, 101, 114, 118, 101, 114]⟩, .func (.func 67) #[] #[], .func (.func 97) #[] #[.pointer (some ⟨B, 0, none⟩), .pointer (some ⟨(B + 1), 0, none⟩)]] 68))
      have hr1 : (wr.alloc (.cells #[.string ⟨#[115, 101, 114, 118, 101, 114]⟩, .func (.func 67) #[] #[], .func (.func 97) #[] #[.pointer (some ⟨B, 0, none⟩), .pointer (some ⟨(B + 1), 0, none⟩)]] 68)).heap[wr.heap.size]? = some (.cells #[.string ⟨#[115, 101, 114, 118, 101, 114]⟩, .func (.func 67) #[] #[], .func (.func 97) #[] #[.pointer (some ⟨B, 0, none⟩), .pointer (some ⟨(B + 1), 0, none⟩)]] 68) := heap_at _ rfl
      have d0 : (wr.alloc (.cells #[.string ⟨#[115, 101, 114, 118, 101, 114]⟩, .func (.func 67) #[] #[], .func (.func 97) #[] #[.pointer (some ⟨B, 0, none⟩), .pointer (some ⟨(B + 1), 0, none⟩)]] 68)).cell? ⟨wr.heap.size, 0, none⟩ = some (.string ⟨#[115, 101, 114, 118, 101, 114]⟩) := cell_of hr1 rfl
      have d1 : (wr.alloc (.cells #[.string ⟨#[115, 101, 114, 118, 101, 114]⟩, .func (.func 67) #[] #[], .func (.func 97) #[] #[.pointer (some ⟨B, 0, none⟩), .pointer (some ⟨(B + 1), 0, none⟩)]] 68)).cell? ⟨wr.heap.size, 1, none⟩ = some (.func (.func 67) #[] #[]) := cell_of hr1 rfl
      have d2 := hA1.fld.srv
      have hz : wr.heap.size < (wr.alloc (.cells #[.string ⟨#[115, 101, 114, 118, 101, 114]⟩, .func (.func 67) #[] #[], .func (.func 97) #[] #[.pointer (some ⟨B, 0, none⟩), .pointer (some ⟨(B + 1), 0, none⟩)]] 68)).heap.size := by simp
      have hxz := hA1.fld.lt
      have hN0 : 0 ≤ x0 ∧ x0 ≤ 1099511627776 := by omega
      rw [hx0'.out] at d2
      go_wp2_with fail
      obtain ⟨W1, hW1⟩ : ∃ W, W = (wr.alloc (.cells #[.string ⟨#[115, 101, 114, 118, 101, 114]⟩, .func (.func 67) #[] #[], .func (.func 97) #[] #[.pointer (some ⟨B, 0, none⟩), .pointer (some ⟨(B + 1), 0, none⟩)]] 68)) := ⟨_, rfl⟩
      obtain ⟨rb, hrb⟩ : ∃ r, r = wr.heap.size := ⟨_, rfl⟩
      rw [← hW1] at hA1 d0 d1 d2 hz hxz hr1 ⊢
      rw [← hrb] at d0 d1 hz hr1 ⊢
      have hil := itoa_len x0 (by omega) (by omega)
      have hs1 : ¬ 9223372036854775807 < 7 + (itoa x0).length := by omega
      have hs2 : ¬ 9223372036854775807 < 7 + (itoa x0).length + 1 := by omega
      clear hW1 hrb q0 q1 q2 hA
      have HD := hide (And.intro d0 (And.intro d1 d2))
      have HX := hide (And.intro hz hxz)
      go_region_held3 (fun w' => w'.cell? ⟨rb, 0, none⟩ = some (.string ⟨#[115, 101, 114, 118, 101, 114]⟩) ∧ w'.cell? ⟨rb, 1, none⟩ = some (.func (.func 67) #[] #[]) ∧ w'.cell? ⟨x, 10, none⟩ = some (.int .i64 x0)) (go_keep)
        (first | (go_at_call 67; refine (n_0 x _).mono ?_; rintro e w2 ⟨rfl, rfl⟩) | (go_at_call 45; refine (itoa_any x0 (by omega) (by omega) _ (hA1.keep (below_drew1 _)).gd).mono ?_; rintro e w4 ⟨rfl, hb4⟩; have hA4 := (hA1.keep (below_drew1 _)).keep hb4; have e0 := keep_cell hb4 (drew_cell HD.out.1); have e1 := keep_cell hb4 (drew_cell HD.out.2.1); have e2 := keep_cell hb4 (drew_cell HD.out.2.2); have e3 := keep_heap hb4 (drew_heap hr1)) | (go_at_call 44; refine (Tryd.Builder_WriteString_k b b _ _ _ hA4.bld ?_ (Nat.le_of_lt (bld_lt hA4.bld))).mono ?_; exact wr_len hpl hil (by decide); rintro e w5 ⟨rfl, hat, hb5, ho5⟩; have hA5 := hA4.write rfl hat hb5 ho5 (Nat.le_trans hw8 hbw) (wr_row c 0 [115, 101, 114, 118, 101, 114] x0 rfl hx0'.out); have e3' := others_keep ho5 hA4.bld e3 (by decide) (by decide); have f0 := cell_of (i := 0) e3' rfl; have f1 := cell_of (i := 1) e3' rfl; have f2 := fld_srv hA5.fld hx0'.out))
      go_wp2_with fail
      go_roundw
      case rel => exact ⟨1, by go_num, by omega, hA5⟩
      case measure => simp [intOf]
    · obtain ⟨q0, q1, q2⟩ := hA.rows.r1
      have hA1 := hA.keep (below_alloc1 _ (.cells #[.string ⟨#[100, 97, 116, 97, 103, 114, 97, 109]⟩, .func (.func 69) #[] #[], .func (.func 97) #[] #[.pointer (some ⟨(B + 2), 0, none⟩), .pointer (some ⟨(B + 3), 0, none⟩)]] 68))
      have hr1 : (wr.alloc (.cells #[.string ⟨#[100, 97, 116, 97, 103, 114, 97, 109]⟩, .func (.func 69) #[] #[], .func (.func 97) #[] #[.pointer (some ⟨(B + 2), 0, none⟩), .pointer (some ⟨(B + 3), 0, none⟩)]] 68)).heap[wr.heap.size]? = some (.cells #[.string ⟨#[100, 97, 116, 97, 103, 114, 97, 109]⟩, .func (.func 69) #[] #[], .func (.func 97) #[] #[.pointer (some ⟨(B + 2), 0, none⟩), .pointer (some ⟨(B + 3), 0, none⟩)]] 68) := heap_at _ rfl
      have d0 : (wr.alloc (.cells #[.string ⟨#[100, 97, 116, 97, 103, 114, 97, 109]⟩, .func (.func 69) #[] #[], .func (.func 97) #[] #[.pointer (some ⟨(B + 2), 0, none⟩), .pointer (some ⟨(B + 3), 0, none⟩)]] 68)).cell? ⟨wr.heap.size, 0, none⟩ = some (.string ⟨#[100, 97, 116, 97, 103, 114, 97, 109]⟩) := cell_of hr1 rfl
      have d1 : (wr.alloc (.cells #[.string ⟨#[100, 97, 116, 97, 103, 114, 97, 109]⟩, .func (.func 69) #[] #[], .func (.func 97) #[] #[.pointer (some ⟨(B + 2), 0, none⟩), .pointer (some ⟨(B + 3), 0, none⟩)]] 68)).cell? ⟨wr.heap.size, 1, none⟩ = some (.func (.func 69) #[] #[]) := cell_of hr1 rfl
      have d2 := hA1.fld.cf.h1
      have hz : wr.heap.size < (wr.alloc (.cells #[.string ⟨#[100, 97, 116, 97, 103, 114, 97, 109]⟩, .func (.func 69) #[] #[], .func (.func 97) #[] #[.pointer (some ⟨(B + 2), 0, none⟩), .pointer (some ⟨(B + 3), 0, none⟩)]] 68)).heap.size := by simp
      have hxz := hA1.fld.lt
      have hN0 : 0 ≤ c.dg ∧ c.dg ≤ 1099511627776 := by omega
      go_wp2_with fail
      obtain ⟨W1, hW1⟩ : ∃ W, W = (wr.alloc (.cells #[.string ⟨#[100, 97, 116, 97, 103, 114, 97, 109]⟩, .func (.func 69) #[] #[], .func (.func 97) #[] #[.pointer (some ⟨(B + 2), 0, none⟩), .pointer (some ⟨(B + 3), 0, none⟩)]] 68)) := ⟨_, rfl⟩
      obtain ⟨rb, hrb⟩ : ∃ r, r = wr.heap.size := ⟨_, rfl⟩
      rw [← hW1] at hA1 d0 d1 d2 hz hxz hr1 ⊢
      rw [← hrb] at d0 d1 hz hr1 ⊢
      have hil := itoa_len c.dg (by omega) (by omega)
      have hs1 : ¬ 9223372036854775807 < 9 + (itoa c.dg).length := by omega
      have hs2 : ¬ 9223372036854775807 < 9 + (itoa c.dg).length + 1 := by omega
      clear hW1 hrb q0 q1 q2 hA
      have HD := hide (And.intro d0 (And.intro d1 d2))
      have HX := hide (And.intro hz hxz)
      go_region_held3 (fun w' => w'.cell? ⟨rb, 0, none⟩ = some (.string ⟨#[100, 97, 116, 97, 103, 114, 97, 109]⟩) ∧ w'.cell? ⟨rb, 1, none⟩ = some (.func (.func 69) #[] #[]) ∧ w'.cell? ⟨x, 1, none⟩ = some (.int .i64 c.dg)) (go_keep)
        (first | (go_at_call 69; refine (n_1 x _).mono ?_; rintro e w2 ⟨rfl, rfl⟩) | (go_at_call 45; refine (itoa_any c.dg (by omega) (by omega) _ (hA1.keep (below_drew1 _)).gd).mono ?_; rintro e w4 ⟨rfl, hb4⟩; have hA4 := (hA1.keep (below_drew1 _)).keep hb4; have e0 := keep_cell hb4 (drew_cell HD.out.1); have e1 := keep_cell hb4 (drew_cell HD.out.2.1); have e2 := keep_cell hb4 (drew_cell HD.out.2.2); have e3 := keep_heap hb4 (drew_heap hr1)) | (go_at_call 44; refine (Tryd.Builder_WriteString_k b b _ _ _ hA4.bld ?_ (Nat.le_of_lt (bld_lt hA4.bld))).mono ?_; exact wr_len hpl hil (by decide); rintro e w5 ⟨rfl, hat, hb5, ho5⟩; have hA5 := hA4.write rfl hat hb5 ho5 (Nat.le_trans hw8 hbw) (wr_row c 1 [100, 97, 116, 97, 103, 114, 97, 109] c.dg rfl rfl); have e3' := others_keep ho5 hA4.bld e3 (by decide) (by decide); have f0 := cell_of (i := 0) e3' rfl; have f1 := cell_of (i := 1) e3' rfl; have f2 := hA5.fld.cf.h1))
      go_wp2_with fail
      go_roundw
      case rel => exact ⟨2, by go_num, by omega, hA5⟩
      case measure => simp [intOf]
    · obtain ⟨q0, q1, q2⟩ := hA.rows.r2
      have hA1 := hA.keep (below_alloc1 _ (.cells #[.string ⟨#[102, 105, 114, 115, 116]⟩, .func (.func 70) #[] #[], .func (.func 71) #[] #[]] 68))
      have hr1 : (wr.alloc (.cells #[.string ⟨#[102, 105, 114, 115, 116]⟩, .func (.func 70) #[] #[], .func (.func 71) #[] #[]] 68)).heap[wr.heap.size]? = some (.cells #[.string ⟨#[102, 105, 114, 115, 116]⟩, .func (.func 70) #[] #[], .func (.func 71) #[] #[]] 68) := heap_at _ rfl
      have d0 : (wr.alloc (.cells #[.string ⟨#[102, 105, 114, 115, 116]⟩, .func (.func 70) #[] #[], .func (.func 71) #[] #[]] 68)).cell? ⟨wr.heap.size, 0, none⟩ = some (.string ⟨#[102, 105, 114, 115, 116]⟩) := cell_of hr1 rfl
      have d1 : (wr.alloc (.cells #[.string ⟨#[102, 105, 114, 115, 116]⟩, .func (.func 70) #[] #[], .func (.func 71) #[] #[]] 68)).cell? ⟨wr.heap.size, 1, none⟩ = some (.func (.func 70) #[] #[]) := cell_of hr1 rfl
      have d2 := hA1.fld.cf.h2
      have hz : wr.heap.size < (wr.alloc (.cells #[.string ⟨#[102, 105, 114, 115, 116]⟩, .func (.func 70) #[] #[], .func (.func 71) #[] #[]] 68)).heap.size := by simp
      have hxz := hA1.fld.lt
      have hN0 : 0 ≤ c.fi ∧ c.fi ≤ 1099511627776 := by omega
      go_wp2_with fail
      obtain ⟨W1, hW1⟩ : ∃ W, W = (wr.alloc (.cells #[.string ⟨#[102, 105, 114, 115, 116]⟩, .func (.func 70) #[] #[], .func (.func 71) #[] #[]] 68)) := ⟨_, rfl⟩
      obtain ⟨rb, hrb⟩ : ∃ r, r = wr.heap.size := ⟨_, rfl⟩
      rw [← hW1] at hA1 d0 d1 d2 hz hxz hr1 ⊢
      rw [← hrb] at d0 d1 hz hr1 ⊢
      have hil := itoa_len c.fi (by omega) (by omega)
      have hs1 : ¬ 9223372036854775807 < 6 + (itoa c.fi).length := by omega
      have hs2 : ¬ 9223372036854775807 < 6 + (itoa c.fi).length + 1 := by omega
      clear hW1 hrb q0 q1 q2 hA
      have HD := hide (And.intro d0 (And.intro d1 d2))
      have HX := hide (And.intro hz hxz)
      go_region_held3 (fun w' => w'.cell? ⟨rb, 0, none⟩ = some (.string ⟨#[102, 105, 114, 115, 116]⟩) ∧ w'.cell? ⟨rb, 1, none⟩ = some (.func (.func 70) #[] #[]) ∧ w'.cell? ⟨x, 2, none⟩ = some (.int .i64 c.fi)) (go_keep)
        (first | (go_at_call 70; refine (n_2 x _).mono ?_; rintro e w2 ⟨rfl, rfl⟩) | (go_at_call 45; refine (itoa_any c.fi (by omega) (by omega) _ (hA1.keep (below_drew1 _)).gd).mono ?_; rintro e w4 ⟨rfl, hb4⟩; have hA4 := (hA1.keep (below_drew1 _)).keep hb4; have e0 := keep_cell hb4 (drew_cell HD.out.1); have e1 := keep_cell hb4 (drew_cell HD.out.2.1); have e2 := keep_cell hb4 (drew_cell HD.out.2.2); have e3 := keep_heap hb4 (drew_heap hr1)) | (go_at_call 44; refine (Tryd.Builder_WriteString_k b b _ _ _ hA4.bld ?_ (Nat.le_of_lt (bld_lt hA4.bld))).mono ?_; exact wr_len hpl hil (by decide); rintro e w5 ⟨rfl, hat, hb5, ho5⟩; have hA5 := hA4.write rfl hat hb5 ho5 (Nat.le_trans hw8 hbw) (wr_row c 2 [102, 105, 114, 115, 116] c.fi rfl rfl); have e3' := others_keep ho5 hA4.bld e3 (by decide) (by decide); have f0 := cell_of (i := 0) e3' rfl; have f1 := cell_of (i := 1) e3' rfl; have f2 := hA5.fld.cf.h2))
      go_wp2_with fail
      go_roundw
      case rel => exact ⟨3, by go_num, by omega, hA5⟩
      case measure => simp [intOf]
    · obtain ⟨q0, q1, q2⟩ := hA.rows.r3
      have hA1 := hA.keep (below_alloc1 _ (.cells #[.string ⟨#[109, 111, 115, 116]⟩, .func (.func 72) #[] #[], .func (.func 73) #[] #[]] 68))
      have hr1 : (wr.alloc (.cells #[.string ⟨#[109, 111, 115, 116]⟩, .func (.func 72) #[] #[], .func (.func 73) #[] #[]] 68)).heap[wr.heap.size]? = some (.cells #[.string ⟨#[109, 111, 115, 116]⟩, .func (.func 72) #[] #[], .func (.func 73) #[] #[]] 68) := heap_at _ rfl
      have d0 : (wr.alloc (.cells #[.string ⟨#[109, 111, 115, 116]⟩, .func (.func 72) #[] #[], .func (.func 73) #[] #[]] 68)).cell? ⟨wr.heap.size, 0, none⟩ = some (.string ⟨#[109, 111, 115, 116]⟩) := cell_of hr1 rfl
      have d1 : (wr.alloc (.cells #[.string ⟨#[109, 111, 115, 116]⟩, .func (.func 72) #[] #[], .func (.func 73) #[] #[]] 68)).cell? ⟨wr.heap.size, 1, none⟩ = some (.func (.func 72) #[] #[]) := cell_of hr1 rfl
      have d2 := hA1.fld.cf.h3
      have hz : wr.heap.size < (wr.alloc (.cells #[.string ⟨#[109, 111, 115, 116]⟩, .func (.func 72) #[] #[], .func (.func 73) #[] #[]] 68)).heap.size := by simp
      have hxz := hA1.fld.lt
      have hN0 : 0 ≤ c.mo ∧ c.mo ≤ 1099511627776 := by omega
      go_wp2_with fail
      obtain ⟨W1, hW1⟩ : ∃ W, W = (wr.alloc (.cells #[.string ⟨#[109, 111, 115, 116]⟩, .func (.func 72) #[] #[], .func (.func 73) #[] #[]] 68)) := ⟨_, rfl⟩
      obtain ⟨rb, hrb⟩ : ∃ r, r = wr.heap.size := ⟨_, rfl⟩
      rw [← hW1] at hA1 d0 d1 d2 hz hxz hr1 ⊢
      rw [← hrb] at d0 d1 hz hr1 ⊢
      have hil := itoa_len c.mo (by omega) (by omega)
      have hs1 : ¬ 9223372036854775807 < 5 + (itoa c.mo).length := by omega
      have hs2 : ¬ 9223372036854775807 < 5 + (itoa c.mo).length + 1 := by omega
      clear hW1 hrb q0 q1 q2 hA
      have HD := hide (And.intro d0 (And.intro d1 d2))
      have HX := hide (And.intro hz hxz)
      go_region_held3 (fun w' => w'.cell? ⟨rb, 0, none⟩ = some (.string ⟨#[109, 111, 115, 116]⟩) ∧ w'.cell? ⟨rb, 1, none⟩ = some (.func (.func 72) #[] #[]) ∧ w'.cell? ⟨x, 3, none⟩ = some (.int .i64 c.mo)) (go_keep)
        (first | (go_at_call 72; refine (n_3 x _).mono ?_; rintro e w2 ⟨rfl, rfl⟩) | (go_at_call 45; refine (itoa_any c.mo (by omega) (by omega) _ (hA1.keep (below_drew1 _)).gd).mono ?_; rintro e w4 ⟨rfl, hb4⟩; have hA4 := (hA1.keep (below_drew1 _)).keep hb4; have e0 := keep_cell hb4 (drew_cell HD.out.1); have e1 := keep_cell hb4 (drew_cell HD.out.2.1); have e2 := keep_cell hb4 (drew_cell HD.out.2.2); have e3 := keep_heap hb4 (drew_heap hr1)) | (go_at_call 44; refine (Tryd.Builder_WriteString_k b b _ _ _ hA4.bld ?_ (Nat.le_of_lt (bld_lt hA4.bld))).mono ?_; exact wr_len hpl hil (by decide); rintro e w5 ⟨rfl, hat, hb5, ho5⟩; have hA5 := hA4.write rfl hat hb5 ho5 (Nat.le_trans hw8 hbw) (wr_row c 3 [109, 111, 115, 116] c.mo rfl rfl); have e3' := others_keep ho5 hA4.bld e3 (by decide) (by decide); have f0 := cell_of (i := 0) e3' rfl; have f1 := cell_of (i := 1) e3' rfl; have f2 := hA5.fld.cf.h3))
      go_wp2_with fail
      go_roundw
      case rel => exact ⟨4, by go_num, by omega, hA5⟩
      case measure => simp [intOf]
    · obtain ⟨q0, q1, q2⟩ := hA.rows.r4
      have hA1 := hA.keep (below_alloc1 _ (.cells #[.string ⟨#[114, 116, 116]⟩, .func (.func 74) #[] #[], .func (.func 97) #[] #[.pointer (some ⟨(B + 4), 0, none⟩), .pointer (some ⟨(B + 5), 0, none⟩)]] 68))
      have hr1 : (wr.alloc (.cells #[.string ⟨#[114, 116, 116]⟩, .func (.func 74) #[] #[], .func (.func 97) #[] #[.pointer (some ⟨(B + 4), 0, none⟩), .pointer (some ⟨(B + 5), 0, none⟩)]] 68)).heap[wr.heap.size]? = some (.cells #[.string ⟨#[114, 116, 116]⟩, .func (.func 74) #[] #[], .func (.func 97) #[] #[.pointer (some ⟨(B + 4), 0, none⟩), .pointer (some ⟨(B + 5), 0, none⟩)]] 68) := heap_at _ rfl
      have d0 : (wr.alloc (.cells #[.string ⟨#[114, 116, 116]⟩, .func (.func 74) #[] #[], .func (.func 97) #[] #[.pointer (some ⟨(B + 4), 0, none⟩), .pointer (some ⟨(B + 5), 0, none⟩)]] 68)).cell? ⟨wr.heap.size, 0, none⟩ = some (.string ⟨#[114, 116, 116]⟩) := cell_of hr1 rfl
      have d1 : (wr.alloc (.cells #[.string ⟨#[114, 116, 116]⟩, .func (.func 74) #[] #[], .func (.func 97) #[] #[.pointer (some ⟨(B + 4), 0, none⟩), .pointer (some ⟨(B + 5), 0, none⟩)]] 68)).cell? ⟨wr.heap.size, 1, none⟩ = some (.func (.func 74) #[] #[]) := cell_of hr1 rfl
      have d2 := hA1.fld.cf.h4
      have hz : wr.heap.size < (wr.alloc (.cells #[.string ⟨#[114, 116, 116]⟩, .func (.func 74) #[] #[], .func (.func 97) #[] #[.pointer (some ⟨(B + 4), 0, none⟩), .pointer (some ⟨(B + 5), 0, none⟩)]] 68)).heap.size := by simp
      have hxz := hA1.fld.lt
      have hN0 : 0 ≤ c.rt ∧ c.rt ≤ 1099511627776 := by omega
      go_wp2_with fail
      obtain ⟨W1, hW1⟩ : ∃ W, W = (wr.alloc (.cells #[.string ⟨#[114, 116, 116]⟩, .func (.func 74) #[] #[], .func (.func 97) #[] #[.pointer (some ⟨(B + 4), 0, none⟩), .pointer (some ⟨(B + 5), 0, none⟩)]] 68)) := ⟨_, rfl⟩
      obtain ⟨rb, hrb⟩ : ∃ r, r = wr.heap.size := ⟨_, rfl⟩
      rw [← hW1] at hA1 d0 d1 d2 hz hxz hr1 ⊢
      rw [← hrb] at d0 d1 hz hr1 ⊢
      have hil := itoa_len c.rt (by omega) (by omega)
      have hs1 : ¬ 9223372036854775807 < 4 + (itoa c.rt).length := by omega
      have hs2 : ¬ 9223372036854775807 < 4 + (itoa c.rt).length + 1 := by omega
      clear hW1 hrb q0 q1 q2 hA
      have HD := hide (And.intro d0 (And.intro d1 d2))
      have HX := hide (And.intro hz hxz)
      go_region_held3 (fun w' => w'.cell? ⟨rb, 0, none⟩ = some (.string ⟨#[114, 116, 116]⟩) ∧ w'.cell? ⟨rb, 1, none⟩ = some (.func (.func 74) #[] #[]) ∧ w'.cell? ⟨x, 4, none⟩ = some (.int .i64 c.rt)) (go_keep)
        (first | (go_at_call 74; refine (n_4 x _).mono ?_; rintro e w2 ⟨rfl, rfl⟩) | (go_at_call 45; refine (itoa_any c.rt (by omega) (by omega) _ (hA1.keep (below_drew1 _)).gd).mono ?_; rintro e w4 ⟨rfl, hb4⟩; have hA4 := (hA1.keep (below_drew1 _)).keep hb4; have e0 := keep_cell hb4 (drew_cell HD.out.1); have e1 := keep_cell hb4 (drew_cell HD.out.2.1); have e2 := keep_cell hb4 (drew_cell HD.out.2.2); have e3 := keep_heap hb4 (drew_heap hr1)) | (go_at_call 44; refine (Tryd.Builder_WriteString_k b b _ _ _ hA4.bld ?_ (Nat.le_of_lt (bld_lt hA4.bld))).mono ?_; exact wr_len hpl hil (by decide); rintro e w5 ⟨rfl, hat, hb5, ho5⟩; have hA5 := hA4.write rfl hat hb5 ho5 (Nat.le_trans hw8 hbw) (wr_row c 4 [114, 116, 116] c.rt rfl rfl); have e3' := others_keep ho5 hA4.bld e3 (by decide) (by decide); have f0 := cell_of (i := 0) e3' rfl; have f1 := cell_of (i := 1) e3' rfl; have f2 := hA5.fld.cf.h4))
      go_wp2_with fail
      go_roundw
      case rel => exact ⟨5, by go_num, by omega, hA5⟩
      case measure => simp [intOf]
    · obtain ⟨q0, q1, q2⟩ := hA.rows.r5
      have hA1 := hA.keep (below_alloc1 _ (.cells #[.string ⟨#[100, 101, 108, 97, 121]⟩, .func (.func 75) #[] #[], .func (.func 97) #[] #[.pointer (some ⟨(B + 6), 0, none⟩), .pointer (some ⟨(B + 7), 0, none⟩)]] 68))
      have hr1 : (wr.alloc (.cells #[.string ⟨#[100, 101, 108, 97, 121]⟩, .func (.func 75) #[] #[], .func (.func 97) #[] #[.pointer (some ⟨(B + 6), 0, none⟩), .pointer (some ⟨(B + 7), 0, none⟩)]] 68)).heap[wr.heap.size]? = some (.cells #[.string ⟨#[100, 101, 108, 97, 121]⟩, .func (.func 75) #[] #[], .func (.func 97) #[] #[.pointer (some ⟨(B + 6), 0, none⟩), .pointer (some ⟨(B + 7), 0, none⟩)]] 68) := heap_at _ rfl
      have d0 : (wr.alloc (.cells #[.string ⟨#[100, 101, 108, 97, 121]⟩, .func (.func 75) #[] #[], .func (.func 97) #[] #[.pointer (some ⟨(B + 6), 0, none⟩), .pointer (some ⟨(B + 7), 0, none⟩)]] 68)).cell? ⟨wr.heap.size, 0, none⟩ = some (.string ⟨#[100, 101, 108, 97, 121]⟩) := cell_of hr1 rfl
      have d1 : (wr.alloc (.cells #[.string ⟨#[100, 101, 108, 97, 121]⟩, .func (.func 75) #[] #[], .func (.func 97) #[] #[.pointer (some ⟨(B + 6), 0, none⟩), .pointer (some ⟨(B + 7), 0, none⟩)]] 68)).cell? ⟨wr.heap.size, 1, none⟩ = some (.func (.func 75) #[] #[]) := cell_of hr1 rfl
      have d2 := hA1.fld.cf.h5
      have hz : wr.heap.size < (wr.alloc (.cells #[.string ⟨#[100, 101, 108, 97, 121]⟩, .func (.func 75) #[] #[], .func (.func 97) #[] #[.pointer (some ⟨(B + 6), 0, none⟩), .pointer (some ⟨(B + 7), 0, none⟩)]] 68)).heap.size := by simp
      have hxz := hA1.fld.lt
      have hN0 : 0 ≤ c.md ∧ c.md ≤ 1099511627776 := by omega
      go_wp2_with fail
      obtain ⟨W1, hW1⟩ : ∃ W, W = (wr.alloc (.cells #[.string ⟨#[100, 101, 108, 97, 121]⟩, .func (.func 75) #[] #[], .func (.func 97) #[] #[.pointer (some ⟨(B + 6), 0, none⟩), .pointer (some ⟨(B + 7), 0, none⟩)]] 68)) := ⟨_, rfl⟩
      obtain ⟨rb, hrb⟩ : ∃ r, r = wr.heap.size := ⟨_, rfl⟩
      rw [← hW1] at hA1 d0 d1 d2 hz hxz hr1 ⊢
      rw [← hrb] at d0 d1 hz hr1 ⊢
      have hil := itoa_len c.md (by omega) (by omega)
      have hs1 : ¬ 9223372036854775807 < 6 + (itoa c.md).length := by omega
      have hs2 : ¬ 9223372036854775807 < 6 + (itoa c.md).length + 1 := by omega
      clear hW1 hrb q0 q1 q2 hA
      have HD := hide (And.intro d0 (And.intro d1 d2))
      have HX := hide (And.intro hz hxz)
      go_region_held3 (fun w' => w'.cell? ⟨rb, 0, none⟩ = some (.string ⟨#[100, 101, 108, 97, 121]⟩) ∧ w'.cell? ⟨rb, 1, none⟩ = some (.func (.func 75) #[] #[]) ∧ w'.cell? ⟨x, 5, none⟩ = some (.int .i64 c.md)) (go_keep)
        (first | (go_at_call 75; refine (n_5 x _).mono ?_; rintro e w2 ⟨rfl, rfl⟩) | (go_at_call 45; refine (itoa_any c.md (by omega) (by omega) _ (hA1.keep (below_drew1 _)).gd).mono ?_; rintro e w4 ⟨rfl, hb4⟩; have hA4 := (hA1.keep (below_drew1 _)).keep hb4; have e0 := keep_cell hb4 (drew_cell HD.out.1); have e1 := keep_cell hb4 (drew_cell HD.out.2.1); have e2 := keep_cell hb4 (drew_cell HD.out.2.2); have e3 := keep_heap hb4 (drew_heap hr1)) | (go_at_call 44; refine (Tryd.Builder_WriteString_k b b _ _ _ hA4.bld ?_ (Nat.le_of_lt (bld_lt hA4.bld))).mono ?_; exact wr_len hpl hil (by decide); rintro e w5 ⟨rfl, hat, hb5, ho5⟩; have hA5 := hA4.write rfl hat hb5 ho5 (Nat.le_trans hw8 hbw) (wr_row c 5 [100, 101, 108, 97, 121] c.md rfl rfl); have e3' := others_keep ho5 hA4.bld e3 (by decide) (by decide); have f0 := cell_of (i := 0) e3' rfl; have f1 := cell_of (i := 1) e3' rfl; have f2 := hA5.fld.cf.h5))
      go_wp2_with fail
      go_roundw
      case rel => exact ⟨6, by go_num, by omega, hA5⟩
      case measure => simp [intOf]
    · obtain ⟨q0, q1, q2⟩ := hA.rows.r6
      have hA1 := hA.keep (below_alloc1 _ (.cells #[.string ⟨#[101, 120, 112]⟩, .func (.func 76) #[] #[], .func (.func 97) #[] #[.pointer (some ⟨(B + 8), 0, none⟩), .pointer (some ⟨(B + 9), 0, none⟩)]] 68))
      have hr1 : (wr.alloc (.cells #[.string ⟨#[101, 120, 112]⟩, .func (.func 76) #[] #[], .func (.func 97) #[] #[.pointer (some ⟨(B + 8), 0, none⟩), .pointer (some ⟨(B + 9), 0, none⟩)]] 68)).heap[wr.heap.size]? = some (.cells #[.string ⟨#[101, 120, 112]⟩, .func (.func 76) #[] #[], .func (.func 97) #[] #[.pointer (some ⟨(B + 8), 0, none⟩), .pointer (some ⟨(B + 9), 0, none⟩)]] 68) := heap_at _ rfl
      have d0 : (wr.alloc (.cells #[.string ⟨#[101, 120, 112]⟩, .func (.func 76) #[] #[], .func (.func 97) #[] #[.pointer (some ⟨(B + 8), 0, none⟩), .pointer (some ⟨(B + 9), 0, none⟩)]] 68)).cell? ⟨wr.heap.size, 0, none⟩ = some (.string ⟨#[101, 120, 112]⟩) := cell_of hr1 rfl
      have d1 : (wr.alloc (.cells #[.string ⟨#[101, 120, 112]⟩, .func (.func 76) #[] #[], .func (.func 97) #[] #[.pointer (some ⟨(B + 8), 0, none⟩), .pointer (some ⟨(B + 9), 0, none⟩)]] 68)).cell? ⟨wr.heap.size, 1, none⟩ = some (.func (.func 76) #[] #[]) := cell_of hr1 rfl
      have d2 := hA1.fld.cf.h6
      have hz : wr.heap.size < (wr.alloc (.cells #[.string ⟨#[101, 120, 112]⟩, .func (.func 76) #[] #[], .func (.func 97) #[] #[.pointer (some ⟨(B + 8), 0, none⟩), .pointer (some ⟨(B + 9), 0, none⟩)]] 68)).heap.size := by simp
      have hxz := hA1.fld.lt
      have hN0 : 0 ≤ c.ex ∧ c.ex ≤ 1099511627776 := by omega
      go_wp2_with fail
      obtain ⟨W1, hW1⟩ : ∃ W, W = (wr.alloc (.cells #[.string ⟨#[101, 120, 112]⟩, .func (.func 76) #[] #[], .func (.func 97) #[] #[.pointer (some ⟨(B + 8), 0, none⟩), .pointer (some ⟨(B + 9), 0, none⟩)]] 68)) := ⟨_, rfl⟩
      obtain ⟨rb, hrb⟩ : ∃ r, r = wr.heap.size := ⟨_, rfl⟩
      rw [← hW1] at hA1 d0 d1 d2 hz hxz hr1 ⊢
      rw [← hrb] at d0 d1 hz hr1 ⊢
      have hil := itoa_len c.ex (by omega) (by omega)
      have hs1 : ¬ 9223372036854775807 < 4 + (itoa c.ex).length := by omega
      have hs2 : ¬ 9223372036854775807 < 4 + (itoa c.ex).length + 1 := by omega
      clear hW1 hrb q0 q1 q2 hA
      have HD := hide (And.intro d0 (And.intro d1 d2))
      have HX := hide (And.intro hz hxz)
      go_region_held3 (fun w' => w'.cell? ⟨rb, 0, none⟩ = some (.string ⟨#[101, 120, 112]⟩) ∧ w'.cell? ⟨rb, 1, none⟩ = some (.func (.func 76) #[] #[]) ∧ w'.cell? ⟨x, 6, none⟩ = some (.int .i64 c.ex)) (go_keep)
        (first | (go_at_call 76; refine (n_6 x _).mono ?_; rintro e w2 ⟨rfl, rfl⟩) | (go_at_call 45; refine (itoa_any c.ex (by omega) (by omega) _ (hA1.keep (below_drew1 _)).gd).mono ?_; rintro e w4 ⟨rfl, hb4⟩; have hA4 := (hA1.keep (below_drew1 _)).keep hb4; have e0 := keep_cell hb4 (drew_cell HD.out.1); have e1 := keep_cell hb4 (drew_cell HD.out.2.1); have e2 := keep_cell hb4 (drew_cell HD.out.2.2); have e3 := keep_heap hb4 (drew_heap hr1)) | (go_at_call 44; refine (Tryd.Builder_WriteString_k b b _ _ _ hA4.bld ?_ (Nat.le_of_lt (bld_lt hA4.bld))).mono ?_; exact wr_len hpl hil (by decide); rintro e w5 ⟨rfl, hat, hb5, ho5⟩; have hA5 := hA4.write rfl hat hb5 ho5 (Nat.le_trans hw8 hbw) (wr_row c 6 [101, 120, 112] c.ex rfl rfl); have e3' := others_keep ho5 hA4.bld e3 (by decide) (by decide); have f0 := cell_of (i := 0) e3' rfl; have f1 := cell_of (i := 1) e3' rfl; have f2 := hA5.fld.cf.h6))
      go_wp2_with fail
      go_roundw
      case rel => exact ⟨7, by go_num, by omega, hA5⟩
      case measure => simp [intOf]
    · obtain ⟨q0, q1, q2⟩ := hA.rows.r7
      have hA1 := hA.keep (below_alloc1 _ (.cells #[.string ⟨#[98, 117, 114, 115, 116]⟩, .func (.func 77) #[] #[], .func (.func 78) #[] #[]] 68))
      have hr1 : (wr.alloc (.cells #[.string ⟨#[98, 117, 114, 115, 116]⟩, .func (.func 77) #[] #[], .func (.func 78) #[] #[]] 68)).heap[wr.heap.size]? = some (.cells #[.string ⟨#[98, 117, 114, 115, 116]⟩, .func (.func 77) #[] #[], .func (.func 78) #[] #[]] 68) := heap_at _ rfl
      have d0 : (wr.alloc (.cells #[.string ⟨#[98, 117, 114, 115, 116]⟩, .func (.func 77) #[] #[], .func (.func 78) #[] #[]] 68)).cell? ⟨wr.heap.size, 0, none⟩ = some (.string ⟨#[98, 117, 114, 115, 116]⟩) := cell_of hr1 rfl
      have d1 : (wr.alloc (.cells #[.string ⟨#[98, 117, 114, 115, 116]⟩, .func (.func 77) #[] #[], .func (.func 78) #[] #[]] 68)).cell? ⟨wr.heap.size, 1, none⟩ = some (.func (.func 77) #[] #[]) := cell_of hr1 rfl
      have d2 := hA1.fld.cf.h7
      have hz : wr.heap.size < (wr.alloc (.cells #[.string ⟨#[98, 117, 114, 115, 116]⟩, .func (.func 77) #[] #[], .func (.func 78) #[] #[]] 68)).heap.size := by simp
      have hxz := hA1.fld.lt
      have hN0 : 0 ≤ c.bu ∧ c.bu ≤ 1099511627776 := by omega
      go_wp2_with fail
      obtain ⟨W1, hW1⟩ : ∃ W, W = (wr.alloc (.cells #[.string ⟨#[98, 117, 114, 115, 116]⟩, .func (.func 77) #[] #[], .func (.func 78) #[] #[]] 68)) := ⟨_, rfl⟩
      obtain ⟨rb, hrb⟩ : ∃ r, r = wr.heap.size := ⟨_, rfl⟩
      rw [← hW1] at hA1 d0 d1 d2 hz hxz hr1 ⊢
      rw [← hrb] at d0 d1 hz hr1 ⊢
      have hil := itoa_len c.bu (by omega) (by omega)
      have hs1 : ¬ 9223372036854775807 < 6 + (itoa c.bu).length := by omega
      have hs2 : ¬ 9223372036854775807 < 6 + (itoa c.bu).length + 1 := by omega
      clear hW1 hrb q0 q1 q2 hA
      have HD := hide (And.intro d0 (And.intro d1 d2))
      have HX := hide (And.intro hz hxz)
      go_region_held3 (fun w' => w'.cell? ⟨rb, 0, none⟩ = some (.string ⟨#[98, 117, 114, 115, 116]⟩) ∧ w'.cell? ⟨rb, 1, none⟩ = some (.func (.func 77) #[] #[]) ∧ w'.cell? ⟨x, 7, none⟩ = some (.int .i64 c.bu)) (go_keep)
        (first | (go_at_call 77; refine (n_7 x _).mono ?_; rintro e w2 ⟨rfl, rfl⟩) | (go_at_call 45; refine (itoa_any c.bu (by omega) (by omega) _ (hA1.keep (below_drew1 _)).gd).mono ?_; rintro e w4 ⟨rfl, hb4⟩; have hA4 := (hA1.keep (below_drew1 _)).keep hb4; have e0 := keep_cell hb4 (drew_cell HD.out.1); have e1 := keep_cell hb4 (drew_cell HD.out.2.1); have e2 := keep_cell hb4 (drew_cell HD.out.2.2); have e3 := keep_heap hb4 (drew_heap hr1)) | (go_at_call 44; refine (Tryd.Builder_WriteString_k b b _ _ _ hA4.bld ?_ (Nat.le_of_lt (bld_lt hA4.bld))).mono ?_; exact wr_len hpl hil (by decide); rintro e w5 ⟨rfl, hat, hb5, ho5⟩; have hA5 := hA4.write rfl hat hb5 ho5 (Nat.le_trans hw8 hbw) (wr_row c 7 [98, 117, 114, 115, 116] c.bu rfl rfl); have e3' := others_keep ho5 hA4.bld e3 (by decide) (by decide); have f0 := cell_of (i := 0) e3' rfl; have f1 := cell_of (i := 1) e3' rfl; have f2 := hA5.fld.cf.h7))
      go_wp2_with fail
      go_roundw
      case rel => exact ⟨8, by go_num, by omega, hA5⟩
      case measure => simp [intOf]
    · obtain ⟨q0, q1, q2⟩ := hA.rows.r8
      have hA1 := hA.keep (below_alloc1 _ (.cells #[.string ⟨#[114, 111, 111, 109]⟩, .func (.func 79) #[] #[], .func (.func 97) #[] #[.pointer (some ⟨(B + 10), 0, none⟩), .pointer (some ⟨(B + 11), 0, none⟩)]] 68))
      have hr1 : (wr.alloc (.cells #[.string ⟨#[114, 111, 111, 109]⟩, .func (.func 79) #[] #[], .func (.func 97) #[] #[.pointer (some ⟨(B + 10), 0, none⟩), .pointer (some ⟨(B + 11), 0, none⟩)]] 68)).heap[wr.heap.size]? = some (.cells #[.string ⟨#[114, 111, 111, 109]⟩, .func (.func 79) #[] #[], .func (.func 97) #[] #[.pointer (some ⟨(B + 10), 0, none⟩), .pointer (some ⟨(B + 11), 0, none⟩)]] 68) := heap_at _ rfl
      have d0 : (wr.alloc (.cells #[.string ⟨#[114, 111, 111, 109]⟩, .func (.func 79) #[] #[], .func (.func 97) #[] #[.pointer (some ⟨(B + 10), 0, none⟩), .pointer (some ⟨(B + 11), 0, none⟩)]] 68)).cell? ⟨wr.heap.size, 0, none⟩ = some (.string ⟨#[114, 111, 111, 109]⟩) := cell_of hr1 rfl
      have d1 : (wr.alloc (.cells #[.string ⟨#[114, 111, 111, 109]⟩, .func (.func 79) #[] #[], .func (.func 97) #[] #[.pointer (some ⟨(B + 10), 0, none⟩), .pointer (some ⟨(B + 11), 0, none⟩)]] 68)).cell? ⟨wr.heap.size, 1, none⟩ = some (.func (.func 79) #[] #[]) := cell_of hr1 rfl
      have d2 := hA1.fld.cf.h8
      have hz : wr.heap.size < (wr.alloc (.cells #[.string ⟨#[114, 111, 111, 109]⟩, .func (.func 79) #[] #[], .func (.func 97) #[] #[.pointer (some ⟨(B + 10), 0, none⟩), .pointer (some ⟨(B + 11), 0, none⟩)]] 68)).heap.size := by simp
      have hxz := hA1.fld.lt
      have hN0 : 0 ≤ c.ro ∧ c.ro ≤ 1099511627776 := by omega
      go_wp2_with fail
      obtain ⟨W1, hW1⟩ : ∃ W, W = (wr.alloc (.cells #[.string ⟨#[114, 111, 111, 109]⟩, .func (.func 79) #[] #[], .func (.func 97) #[] #[.pointer (some ⟨(B + 10), 0, none⟩), .pointer (some ⟨(B + 11), 0, none⟩)]] 68)) := ⟨_, rfl⟩
      obtain ⟨rb, hrb⟩ : ∃ r, r = wr.heap.size := ⟨_, rfl⟩
      rw [← hW1] at hA1 d0 d1 d2 hz hxz hr1 ⊢
      rw [← hrb] at d0 d1 hz hr1 ⊢
      have hil := itoa_len c.ro (by omega) (by omega)
      have hs1 : ¬ 9223372036854775807 < 5 + (itoa c.ro).length := by omega
      have hs2 : ¬ 9223372036854775807 < 5 + (itoa c.ro).length + 1 := by omega
      clear hW1 hrb q0 q1 q2 hA
      have HD := hide (And.intro d0 (And.intro d1 d2))
      have HX := hide (And.intro hz hxz)
      go_region_held3 (fun w' => w'.cell? ⟨rb, 0, none⟩ = some (.string ⟨#[114, 111, 111, 109]⟩) ∧ w'.cell? ⟨rb, 1, none⟩ = some (.func (.func 79) #[] #[]) ∧ w'.cell? ⟨x, 8, none⟩ = some (.int .i64 c.ro)) (go_keep)
        (first | (go_at_call 79; refine (n_8 x _).mono ?_; rintro e w2 ⟨rfl, rfl⟩) | (go_at_call 45; refine (itoa_any c.ro (by omega) (by omega) _ (hA1.keep (below_drew1 _)).gd).mono ?_; rintro e w4 ⟨rfl, hb4⟩; have hA4 := (hA1.keep (below_drew1 _)).keep hb4; have e0 := keep_cell hb4 (drew_cell HD.out.1); have e1 := keep_cell hb4 (drew_cell HD.out.2.1); have e2 := keep_cell hb4 (drew_cell HD.out.2.2); have e3 := keep_heap hb4 (drew_heap hr1)) | (go_at_call 44; refine (Tryd.Builder_WriteString_k b b _ _ _ hA4.bld ?_ (Nat.le_of_lt (bld_lt hA4.bld))).mono ?_; exact wr_len hpl hil (by decide); rintro e w5 ⟨rfl, hat, hb5, ho5⟩; have hA5 := hA4.write rfl hat hb5 ho5 (Nat.le_trans hw8 hbw) (wr_row c 8 [114, 111, 111, 109] c.ro rfl rfl); have e3' := others_keep ho5 hA4.bld e3 (by decide) (by decide); have f0 := cell_of (i := 0) e3' rfl; have f1 := cell_of (i := 1) e3' rfl; have f2 := hA5.fld.cf.h8))
      go_wp2_with fail
      go_roundw
      case rel => exact ⟨9, by go_num, by omega, hA5⟩
      case measure => simp [intOf]
    · obtain ⟨q0, q1, q2⟩ := hA.rows.r9
      have hA1 := hA.keep (below_alloc1 _ (.cells #[.string ⟨#[98, 97, 99, 107, 115]⟩, .func (.func 80) #[] #[], .func (.func 97) #[] #[.pointer (some ⟨(B + 12), 0, none⟩), .pointer (some ⟨(B + 13), 0, none⟩)]] 68))
      have hr1 : (wr.alloc (.cells #[.string ⟨#[98, 97, 99, 107, 115]⟩, .func (.func 80) #[] #[], .func (.func 97) #[] #[.pointer (some ⟨(B + 12), 0, none⟩), .pointer (some ⟨(B + 13), 0, none⟩)]] 68)).heap[wr.heap.size]? = some (.cells #[.string ⟨#[98, 97, 99, 107, 115]⟩, .func (.func 80) #[] #[], .func (.func 97) #[] #[.pointer (some ⟨(B + 12), 0, none⟩), .pointer (some ⟨(B + 13), 0, none⟩)]] 68) := heap_at _ rfl
      have d0 : (wr.alloc (.cells #[.string ⟨#[98, 97, 99, 107, 115]⟩, .func (.func 80) #[] #[], .func (.func 97) #[] #[.pointer (some ⟨(B + 12), 0, none⟩), .pointer (some ⟨(B + 13), 0, none⟩)]] 68)).cell? ⟨wr.heap.size, 0, none⟩ = some (.string ⟨#[98, 97, 99, 107, 115]⟩) := cell_of hr1 rfl
      have d1 : (wr.alloc (.cells #[.string ⟨#[98, 97, 99, 107, 115]⟩, .func (.func 80) #[] #[], .func (.func 97) #[] #[.pointer (some ⟨(B + 12), 0, none⟩), .pointer (some ⟨(B + 13), 0, none⟩)]] 68)).cell? ⟨wr.heap.size, 1, none⟩ = some (.func (.func 80) #[] #[]) := cell_of hr1 rfl
      have d2 := hA1.fld.cf.h9
      have hz : wr.heap.size < (wr.alloc (.cells #[.string ⟨#[98, 97, 99, 107, 115]⟩, .func (.func 80) #[] #[], .func (.func 97) #[] #[.pointer (some ⟨(B + 12), 0, none⟩), .pointer (some ⟨(B + 13), 0, none⟩)]] 68)).heap.size := by simp
      have hxz := hA1.fld.lt
      have hN0 : 0 ≤ c.ba ∧ c.ba ≤ 1099511627776 := by omega
      go_wp2_with fail
      obtain ⟨W1, hW1⟩ : ∃ W, W = (wr.alloc (.cells #[.string ⟨#[98, 97, 99, 107, 115]⟩, .func (.func 80) #[] #[], .func (.func 97) #[] #[.pointer (some ⟨(B + 12), 0, none⟩), .pointer (some ⟨(B + 13), 0, none⟩)]] 68)) := ⟨_, rfl⟩
      obtain ⟨rb, hrb⟩ : ∃ r, r = wr.heap.size := ⟨_, rfl⟩
      rw [← hW1] at hA1 d0 d1 d2 hz hxz hr1 ⊢
      rw [← hrb] at d0 d1 hz hr1 ⊢
      have hil := itoa_len c.ba (by omega) (by omega)
      have hs1 : ¬ 9223372036854775807 < 6 + (itoa c.ba).length := by omega
      have hs2 : ¬ 9223372036854775807 < 6 + (itoa c.ba).length + 1 := by omega
      clear hW1 hrb q0 q1 q2 hA
      have HD := hide (And.intro d0 (And.intro d1 d2))
      have HX := hide (And.intro hz hxz)
      go_region_held3 (fun w' => w'.cell? ⟨rb, 0, none⟩ = some (.string ⟨#[98, 97, 99, 107, 115]⟩) ∧ w'.cell? ⟨rb, 1, none⟩ = some (.func (.func 80) #[] #[]) ∧ w'.cell? ⟨x, 9, none⟩ = some (.int .i64 c.ba)) (go_keep)
        (first | (go_at_call 80; refine (n_9 x _).mono ?_; rintro e w2 ⟨rfl, rfl⟩) | (go_at_call 45; refine (itoa_any c.ba (by omega) (by omega) _ (hA1.keep (below_drew1 _)).gd).mono ?_; rintro e w4 ⟨rfl, hb4⟩; have hA4 := (hA1.keep (below_drew1 _)).keep hb4; have e0 := keep_cell hb4 (drew_cell HD.out.1); have e1 := keep_cell hb4 (drew_cell HD.out.2.1); have e2 := keep_cell hb4 (drew_cell HD.out.2.2); have e3 := keep_heap hb4 (drew_heap hr1)) | (go_at_call 44; refine (Tryd.Builder_WriteString_k b b _ _ _ hA4.bld ?_ (Nat.le_of_lt (bld_lt hA4.bld))).mono ?_; exact wr_len hpl hil (by decide); rintro e w5 ⟨rfl, hat, hb5, ho5⟩; have hA5 := hA4.write rfl hat hb5 ho5 (Nat.le_trans hw8 hbw) (wr_row c 9 [98, 97, 99, 107, 115] c.ba rfl rfl); have e3' := others_keep ho5 hA4.bld e3 (by decide) (by decide); have f0 := cell_of (i := 0) e3' rfl; have f1 := cell_of (i := 1) e3' rfl; have f2 := hA5.fld.cf.h9))
      go_wp2_with fail
      go_roundw
      case rel => exact ⟨10, by go_num, by omega, hA5⟩
      case measure => simp [intOf]
    · go_wp2_with fail
      refine (Tryd.Builder_String_any_k b b (preT c 10) _ hA.bld (Nat.le_of_lt (bld_lt hA.bld))).mono ?_; rintro e w4 ⟨rfl, _, hb4, _⟩
      go_wp2_with fail
      go_ret2
      exact ⟨by rw [← preT_all]; rfl, hA.bel.trans (hb4.mono hbw)⟩
set_option maxRecDepth 100000 in
set_option maxHeartbeats 1000000 in
theorem text_no (c : Cf) (w : World) (hno : ¬ c.ok) : Calls Tryd.prog 19 #[c.val] w fun e w' => e = .returned (.tuple #[.string ⟨#[]⟩, .int .i64 9]) ∧ Below w.heap.size w w' := by
  have he : errOf c = 9 := by unfold errOf; rw [if_neg hno]
  have hb0 := below_alloc1 w (.cells c.cells 24)
  have hp0 : IsCf (w.alloc (.cells c.cells 24)) w.heap.size c := IsCf.of_block (heap_at _ rfl)
  have hk := check_any c (w.alloc (.cells c.cells 24))
  rw [he] at hk
  clear he hno
  go_enter Tryd.func19, Tryd.ntmps19
  simp only [Cf.val, Cf.cells] at hb0 hp0 hk ⊢
  go_wp2_with fail
  refine hk.mono ?_; rintro e w1 ⟨rfl, hb1⟩
  clear hk
  go_wp2_with fail
  go_ret2
  exact ⟨rfl, below_after hb0 hb1⟩
end Go.Proofs.YtjhkgoppopfoaaaDoor
