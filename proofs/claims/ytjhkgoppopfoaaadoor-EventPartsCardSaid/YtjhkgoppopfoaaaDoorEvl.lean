/-
  An event as a line; the walk of event.Line.
-/
import Derived.Test.YtjhkgoppopfoaaaDoorEvc
namespace Go.Proofs.YtjhkgoppopfoaaaDoor
open Go.RowKit Go.Lib Go.Maps
set_option linter.unusedVariables false
set_option linter.unusedSimpArgs false

def preL (e : Ev) (l : List Fd) : Bs := word e.k.toNat ++ l.flatMap fun f => 32 :: itoa (e.at f.c)
def lineE (e : Ev) : Bs := preL e (fds e.k.toNat) ++ [10]
theorem word_len (k : Nat) : (word k).length ≤ 8 := by unfold word; split <;> simp
theorem ok_range {e : Ev} (h : e.ok) (f : Fd) (hf : f ∈ fds e.k.toNat) : 0 ≤ e.at f.c ∧ e.at f.c ≤ 9007199254740991 := by
  have := h.2.1 f hf
  have := fds_in _ f hf
  omega
theorem preL_len {e : Ev} (h : e.ok) (l : List Fd) (hl : ∀ f ∈ l, f ∈ fds e.k.toNat) : (preL e l).length ≤ 8 + 22 * l.length := by
  have h8 := word_len e.k.toNat
  have : (l.flatMap fun f => 32 :: itoa (e.at f.c)).length ≤ 22 * l.length := by
    induction l with
    | nil => simp
    | cons f l ih =>
      have h1 := ih (fun x hx => hl x (by simp [hx]))
      have hr := ok_range h f (hl f (by simp))
      have h2 : (itoa (e.at f.c)).length ≤ 21 := itoa_length_le _ (by omega) (by omega)
      simp only [List.flatMap_cons, List.length_append, List.length_cons]
      omega
  unfold preL
  rw [List.length_append]
  omega
def LnRel (w : World) (p b F : Nat) (e : Ev) (i s : Value) (wr : World) : Prop := ∃ j : Nat, i = .int .i64 (j : Int) ∧ j ≤ (fds e.k.toNat).length ∧ s = .string ⟨(preL e ((fds e.k.toNat).take j)).toArray⟩ ∧ ChAt w wr p b F e
theorem preL_snoc (e : Ev) (l : List Fd) (f : Fd) : (⟨(preL e l).toArray⟩ : ByteArray) ++ (⟨#[32]⟩ ++ ⟨(itoa (e.at f.c)).toArray⟩) = ⟨(preL e (l ++ [f])).toArray⟩ := by
  apply ByteArray.ext
  simp [preL]
set_option maxRecDepth 100000 in
theorem line_no (e : Ev) (w : World) (hwf : e.wf) (hno : ¬ e.ok) : Calls Tryd.prog 31 #[e.val] w fun x w' => x = .returned (.tuple #[.string ⟨#[]⟩, .int .i64 2]) ∧ Below w.heap.size w w' := by
  have hp : EvAt (w.alloc (.cells e.cells 52)) w.heap.size e := heap_at _ rfl
  have hb := below_alloc1 w (.cells e.cells 52)
  have c0 := hp.c0
  have c1 := hp.c1
  have c2 := hp.c2
  have c3 := hp.c3
  have HE := hide (err_no hno)
  have HW := hide hwf
  simp only [Ev.val, Ev.cells] at hp hb c0 c1 c2 c3 ⊢
  go_enter Tryd.func31, Tryd.ntmps31
  go_wp2_with fail
  refine (echeck_any e _ HW.out).mono ?_; rintro x w1 ⟨rfl, hb1⟩
  rw [HE.out]
  have hb2 := below_after hb hb1
  go_wp2
  exact bodyPost_ret (v := .tuple #[.string ⟨#[]⟩, .int .i64 2]) (by simp [results, Tryd.results31, go_sem]) rfl ⟨rfl, hb2⟩
set_option maxRecDepth 100000 in
set_option maxHeartbeats 8000000 in
theorem line_yes (e : Ev) (w : World) (g : Gd w) (hwf : e.wf) (hok : e.ok) : Calls Tryd.prog 31 #[e.val] w fun x w' => x = .returned (.tuple #[.string ⟨(lineE e).toArray⟩, .int .i64 0]) ∧ Below w.heap.size w w' := by
  have hp0 : EvAt (w.alloc (.cells e.cells 52)) w.heap.size e := heap_at _ rfl
  have hb0 := below_alloc1 w (.cells e.cells 52)
  have c0 := hp0.c0
  have c1 := hp0.c1
  have c2 := hp0.c2
  have c3 := hp0.c3
  have HE := hide (err_yes hok)
  have HW := hide hwf
  have HK := hide hok.1
  simp only [Ev.val, Ev.cells] at hp0 hb0 c0 c1 c2 c3 ⊢
  go_enter Tryd.func31, Tryd.ntmps31
  go_wp2_with fail
  refine (echeck_any e _ HW.out).mono ?_; rintro x W ⟨rfl, hb1⟩
  rw [HE.out]
  have hp := hp0.keep hb1
  have hb := below_after hb0 hb1
  obtain ⟨p, hpe⟩ : ∃ p, p = w.heap.size := ⟨_, rfl⟩
  rw [← hpe] at hp ⊢
  clear hpe c0 c1 c2 c3 hp0 hb0 hb1
  have c0 := hp.c0
  go_upto_region 4 with (fail)
  go_cut [5, 14, 15, 16, 17] (fun t5 _ _ _ _ wc => ∃ b F, t5 = .pointer (some ⟨b, 0, none⟩) ∧ ChAt w wc p b F e)
  case first =>
    have hpd : EvAt W.drew p e := hp
    have hne : p ≠ W.heap.size := Nat.ne_of_lt (lt_of_heap hp)
    have hbd : Below w.heap.size w W.drew := below_after hb (below_drewN (Below.refl _ _) 1)
    have hpa := hpd.keep (below_alloc1 _ (.cells #[.string ⟨#[]⟩, .slice none 0 0] 106))
    have ca := hpa.c0
    have hba := below_after hbd (below_alloc1 _ (.cells #[.string ⟨#[]⟩, .slice none 0 0] 106))
    go_region_held3 (fun w' => w'.cell? ⟨p, 0, none⟩ = some (.int .i64 e.k)) (first | exact c0 | exact c1 | exact ca | exact keep_cell (below_alloc1 _ _) c1 | exact (set2_cell hne _ _ _ _).trans c1)
      (first | (go_at_call 60; refine (forms_any W.drew).mono ?_; rintro x w1 ⟨m, B, rfl, hF, hb1⟩; have hl := look_yes hF HK.out false; simp only [fv, Bool.false_eq_true, if_false] at hl; have HF := hF.blk e.k.toNat (by have := HK.out; omega) (by have := HK.out; omega); have hp1 := hpd.keep hb1; have c1 := hp1.c0; have hb2 := below_after hbd hb1; have hl2 := look_yes (hF.keep (below_alloc1 w1 (.cells #[.string ⟨#[]⟩, .slice none 0 0] 106))) HK.out false; simp only [fv, Bool.false_eq_true, if_false] at hl2) | (go_at_call 60; refine (forms_any _).mono ?_; rintro x w1 ⟨m, B, rfl, hF, hb1⟩; have hl := look_yes hF HK.out false; simp only [fv, Bool.false_eq_true, if_false] at hl; have HF := hF.blk e.k.toNat (by have := HK.out; omega) (by have := HK.out; omega); have hp1 := hpa.keep hb1; have c1 := hp1.c0; have hb2 := below_after hba hb1; have hz : w1.heap[W.heap.size]? = some (.cells #[.string ⟨#[]⟩, .slice none 0 0] 106 (0, 0)) := keep_heap hb1 (heap_at (w := W.drew) _ rfl); have z0 := ecell (i := 0) hz rfl; have z1 := ecell (i := 1) hz rfl; have f0 := efree hz 0; have f1 := efree hz 1))
    all_goals go_wp2_with fail
    all_goals go_meet
    · exact ⟨_, B e.k.toNat, rfl, ⟨keep_heap (below_alloc1 _ _) hp1, heap_at _ rfl, keep_heap (below_alloc1 _ _) HF, below_after hb2 (below_alloc1 _ _)⟩⟩
    · exact ⟨_, B e.k.toNat, rfl, ⟨keep_heap (below_alloc1 _ _) hp1, heap_at _ rfl, keep_heap (below_alloc1 _ _) HF, below_after hb2 (below_alloc1 _ _)⟩⟩
    · have hx := fblk 0 hz (.string ⟨(word e.k.toNat).toArray⟩)
      exact ⟨_, B e.k.toNat, rfl, ⟨oblk hx (oblk hz hp1 (by decide)) (by decide), fblk 1 hx _, oblk hx (oblk hz HF (by decide)) (by decide), (hb2.setCell hbd.size _).setCell hbd.size _⟩⟩
  case rest =>
    obtain ⟨b, F, rfl, hA⟩ := hcut
    clear hp hb c0
    have g0 := ecell (i := 0) hA.frm rfl
    have g1 := ecell (i := 1) hA.frm rfl
    go_wp2_with fail
    clear g0 g1
    go_loopw [23, 6] (LnRel w p b F e) (fun i _ _ => ((fds e.k.toNat).length - intOf i).toNat)
    case atStart => exact ⟨0, rfl, by omega, by simp [preL], hA⟩
    case round =>
      clear hA
      obtain ⟨j, rfl, hj, rfl, hA⟩ := hrel
      have hj3 := fds_len e.k.toNat
      have hpl := preL_len hok ((fds e.k.toNat).take j) (fun f hf => List.mem_of_mem_take hf)
      rw [List.length_take] at hpl
      by_cases hlt : j < (fds e.k.toNat).length
      · obtain ⟨f, hf⟩ : ∃ f, (fds e.k.toNat)[j]? = some f := ⟨_, List.getElem?_eq_getElem hlt⟩
        have hfm := List.mem_of_getElem? hf
        have hr := ok_range hok f hfm
        obtain ⟨hc, -, -⟩ := fds_in _ f hfm
        obtain ⟨G0, G1, G2⟩ := fd_get _ j f hf
        have t0 := ecell hA.fld (by simpa using G0)
        have t1 := ecell hA.fld (by simpa using G1)
        have t2 := ecell hA.fld (by simpa using G2)
        have hjl : (j : Int) < ((fds e.k.toNat).length : Int) := by omega
        have hj0 : (0 : Int) ≤ (j : Int) := by omega
        have HF := hide hf
        have hil : (itoa (e.at f.c)).length ≤ 21 := itoa_length_le _ (by omega) (by omega)
        have HS := hide (preL_snoc e ((fds e.k.toNat).take j) f)
        obtain ⟨c, lo, hi⟩ := f
        clear hf G0 G1 G2 hfm
        simp only at hc t0 t1 t2 hr hil
        obtain rfl | rfl | rfl := hc
        · have hA2 := hA.keep (below_alloc1 wr (.cells #[.func (.func 94) #[] #[], .int .i64 lo, .int .i64 hi] 112))
          have v0 := hA2.ev.c1
          have hil' : (itoa e.sp).length ≤ 21 := hil
          have q1 : ¬ 9223372036854775807 < 1 + (itoa e.sp).length := by omega
          have q2 : ¬ 9223372036854775807 < (preL e ((fds e.k.toNat).take j)).length + (1 + (itoa e.sp).length) := by omega
          have hr' : 0 ≤ e.sp ∧ e.sp ≤ 9007199254740991 := hr
          clear hil hr
          go_wp2_with fail
          refine (f_space p _).mono ?_; rintro x w' ⟨rfl, rfl⟩
          go_wp2_with fail
          refine (itoa_any e.sp (by omega) (by omega) _ (g.keep hA2.bel)).mono ?_; rintro x w2 ⟨rfl, hb2⟩
          have hA3 := hA2.keep hb2
          go_wp2_with fail
          go_roundw
          case rel =>
            refine ⟨j + 1, by go_num, by omega, ?_, hA3⟩
            rw [take_snoc HF.out, ← HS.out]
            rfl
          case measure => simp [intOf]; omega
        · have hA2 := hA.keep (below_alloc1 wr (.cells #[.func (.func 95) #[] #[], .int .i64 lo, .int .i64 hi] 112))
          have v0 := hA2.ev.c2
          have hil' : (itoa e.nu).length ≤ 21 := hil
          have q1 : ¬ 9223372036854775807 < 1 + (itoa e.nu).length := by omega
          have q2 : ¬ 9223372036854775807 < (preL e ((fds e.k.toNat).take j)).length + (1 + (itoa e.nu).length) := by omega
          have hr' : 0 ≤ e.nu ∧ e.nu ≤ 9007199254740991 := hr
          clear hil hr
          go_wp2_with fail
          refine (f_number p _).mono ?_; rintro x w' ⟨rfl, rfl⟩
          go_wp2_with fail
          refine (itoa_any e.nu (by omega) (by omega) _ (g.keep hA2.bel)).mono ?_; rintro x w2 ⟨rfl, hb2⟩
          have hA3 := hA2.keep hb2
          go_wp2_with fail
          go_roundw
          case rel =>
            refine ⟨j + 1, by go_num, by omega, ?_, hA3⟩
            rw [take_snoc HF.out, ← HS.out]
            rfl
          case measure => simp [intOf]; omega
        · have hA2 := hA.keep (below_alloc1 wr (.cells #[.func (.func 96) #[] #[], .int .i64 lo, .int .i64 hi] 112))
          have v0 := hA2.ev.c3
          have hil' : (itoa e.n).length ≤ 21 := hil
          have q1 : ¬ 9223372036854775807 < 1 + (itoa e.n).length := by omega
          have q2 : ¬ 9223372036854775807 < (preL e ((fds e.k.toNat).take j)).length + (1 + (itoa e.n).length) := by omega
          have hr' : 0 ≤ e.n ∧ e.n ≤ 9007199254740991 := hr
          clear hil hr
          go_wp2_with fail
          refine (f_n p _).mono ?_; rintro x w' ⟨rfl, rfl⟩
          go_wp2_with fail
          refine (itoa_any e.n (by omega) (by omega) _ (g.keep hA2.bel)).mono ?_; rintro x w2 ⟨rfl, hb2⟩
          have hA3 := hA2.keep hb2
          go_wp2_with fail
          go_roundw
          case rel =>
            refine ⟨j + 1, by go_num, by omega, ?_, hA3⟩
            rw [take_snoc HF.out, ← HS.out]
            rfl
          case measure => simp [intOf]; omega
      · obtain rfl : j = (fds e.k.toNat).length := by omega
        rw [List.take_length] at hpl
        rw [List.take_length]
        have q1 : ¬ 9223372036854775807 < (preL e (fds e.k.toNat)).length + 1 := by omega
        have hB := hide hA.bel
        go_wp2
        exact bodyPost_ret (v := .tuple #[.string ⟨(lineE e).toArray⟩, .int .i64 0]) (by simp [results, Tryd.results31, go_sem, lineE]; exact (by apply ByteArray.ext; simp)) rfl ⟨rfl, hB.out⟩
end Go.Proofs.YtjhkgoppopfoaaaDoor
