/-
  The walk of EventSpoilt.
-/
import Derived.Test.YtjhkgoppopfoaaaDoorEopen
namespace Go.Proofs.YtjhkgoppopfoaaaDoor
open Go.RowKit Go.Lib Go.Maps
set_option linter.unusedVariables false
set_option linter.unusedSimpArgs false

theorem szq (s : ByteArray) : s.size = s.data.toList.length := by cases s; simp [ByteArray.size]
/-- made of at most 60 rows of an argument. -/
theorem made60 (a : Option Addr) (len cap m : Nat) (z : Nat → Nat → Int) (w : World) (h : IsEvs w a len 3 z) (hm : m ≤ len) (h60 : m ≤ 100) :
    Calls Tryd.prog 27 #[.slice a m cap] w fun e w' => ∃ v, e = .returned v ∧ w'.ownsRow w.heap.size 52 4 v m (flatE (madeE z m)) ∧ Below w.heap.size w w' := by
  have := made22_any a m cap z w (h.take hm)
  rw [show min m 300 = m from by omega] at this
  exact this
set_option maxRecDepth 100000 in
set_option maxHeartbeats 4000000 in
theorem eventSpoilt_any (a : Option Addr) (len cap : Nat) (z : Nat → Nat → Int) (at_ which : Int) (w : World) (g : Gd w) (h : IsEvs w a len 3 z) (hf : SlF a len cap) (hat : IsI at_) (hwh : IsI which) : Calls Tryd.prog 8 #[.slice a len cap, .int .i64 at_, .int .i64 which] w fun e w' => e = .returned (.bool true) ∧ Below w.heap.size w w' := by
  obtain ⟨hlc, hcm, hnn⟩ := hf
  have hcm' : cap ≤ 9223372036854775807 := Nat.le_trans hcm (by decide)
  go_enter Tryd.func8, Tryd.ntmps8
  go_upto_region 1 with (fail)
  go_cut [7, 17, 18, 19, 20, 21, 22] (fun v _ _ _ _ _ _ wc => ∃ m es, m ≤ 60 ∧ (∀ e ∈ es, Ev.ok e) ∧ wc.ownsRow w.heap.size 52 4 v m (flatE es) ∧ Below w.heap.size w wc)
  case first =>
    cases a with
    | none =>
      obtain ⟨rfl, rfl⟩ := hnn rfl
      go_wp2_with fail
      refine (made60 none 0 0 0 z _ h (Nat.le_refl _) (by omega)).mono ?_; rintro x w1 ⟨v, rfl, hown, hb⟩
      go_wp2_with fail
      go_meet
      exact ⟨0, _, by omega, madeE_ok z 0, hown, hb⟩
    | some ad =>
      go_wp2_with fail
      refine (made60 (some ad) len cap (min (len : Int) 60).toNat z _ h (by omega) (by omega)).mono ?_; rintro x w1 ⟨v, rfl, hown, hb⟩
      go_wp2_with fail
      go_meet
      exact ⟨_, _, by omega, madeE_ok z _, hown, hb⟩
  case rest =>
    obtain ⟨m, es, hm, hok, hown, hb⟩ := hcut
    have hel : es.length = m := by have := hown.1; rw [flatE_len] at this; omega
    have gc := g.keep hb
    -- the place, the line that is none
    have hm1 : 0 < (m : Int) + 1 := by omega
    have CK := hide (fun w => br at_ ((m : Int) + 1) w hat (by omega) (by omega))
    have hk := brI_in at_ ((m : Int) + 1) (by omega)
    have CW := hide (fun w => br which 27 w hwh (by decide) (by decide))
    have hw := brI_in which 27 (by decide)
    obtain ⟨k, hke⟩ : ∃ k : Nat, brI at_ ((m : Int) + 1) = (k : Int) := ⟨(brI at_ ((m : Int) + 1)).toNat, by omega⟩
    obtain ⟨q, hqe⟩ : ∃ q : Nat, brI which 27 = (q : Int) := ⟨(brI which 27).toNat, by omega⟩
    rw [hke] at hk CK
    rw [hqe] at hw CW
    have hkm : k ≤ m := by omega
    have hq27 : q < 27 := by omega
    obtain ⟨o, ho⟩ : ∃ o, oddB q = o := ⟨_, rfl⟩
    have hon := oddB_none q hq27
    have hol := oddB_lf q hq27
    have hoz := oddB_len q hq27
    rw [ho] at hon hol hoz
    have htk : ∀ e ∈ es.take k, e.ok := fun e he => hok e (List.mem_of_mem_take he)
    have hdk : ∀ e ∈ es.drop k, e.ok := fun e he => hok e (List.mem_of_mem_drop he)
    have ht1 := textE_len htk
    have ht2 := textE_len hdk
    rw [List.length_take] at ht1
    rw [List.length_drop] at ht2
    have hc1 := textE_count _ htk
    have hc2 := textE_count _ hdk
    have hps := parse_spoilt _ htk o hol hon (textE (es.drop k))
    rw [show (es.take k).length + 1 = k + 1 from by rw [List.length_take]; omega] at hps
    obtain ⟨T1, hT1⟩ : ∃ T, textE (es.take k) = T := ⟨_, rfl⟩
    obtain ⟨T2, hT2⟩ : ∃ T, textE (es.drop k) = T := ⟨_, rfl⟩
    rw [hT1] at ht1 hc1 hps
    rw [hT2] at ht2 hc2 hps
    have HO := hide (And.intro hok (And.intro htk hdk))
    have HT := hide (And.intro hT1 hT2)
    have HPS := hide hps
    have HCN := hide (And.intro hc1 hc2)
    have HLF := hide hol
    have HQ := hide ho
    have HOW := hide hown
    obtain ⟨a0, c0, rfl⟩ := own_slice hown
    clear hok htk hdk hps hc1 hc2 hol hon hown hT1 hT2
    go_upto_region 4 with (first | (go_at_call 15; refine (CK.out _).mono ?_; rintro x w1 ⟨rfl, rfl⟩))
    generalize hW : World.alloc w1 _ = W
    have hbQ : Below w1.heap.size w1 W := by rw [← hW]; exact below_alloc1 _ _
    have hQ : W.heap[w1.heap.size]? = some (.cells ((List.range 27).map fun i => Value.string ⟨(oddB i).toArray⟩).toArray 9 (0, 0)) := by rw [← hW]; exact heap_at _ rfl
    obtain ⟨Q, hQe⟩ : ∃ Q, Q = w1.heap.size := ⟨_, rfl⟩
    rw [← hQe] at hQ
    rw [← hQe]
    have hBW := below_after hb hbQ
    have gW := gc.keep hbQ
    have HO2 := hide (own_keep HOW.out hbQ)
    clear hW hbQ hQe HOW hb gc
    go_cut [10, 11, 29, 30, 31, 32, 33, 34, 35] (fun t10 t11 _ _ _ _ _ _ _ wc => t10 = .string ⟨T1.toArray⟩ ∧ t11 = .int .i64 0 ∧ Below W.heap.size W wc)
    case first =>
      rcases HO2.out.2 with ⟨hv, h0⟩ | ⟨G, cap', cur, hv, -, -, hmc, hcm2, -⟩
      · injection hv with hv1 hv2 hv3
        subst hv1 hv3 h0
        obtain rfl : k = 0 := by omega
        have es0 : es = [] := List.length_eq_zero_iff.1 hel
        have d1 : T1 = [] := by rw [← HT.out.1, es0]; rfl
        subst d1
        have HE0 : Hid (∀ wq, Gd wq → Calls Tryd.prog 28 #[.slice none 0 0] wq fun e w' => e = .returned (.tuple #[.string ⟨#[]⟩, .int .i64 0]) ∧ Below wq.heap.size wq w') := hide (fun wq g => etext_yes none 0 0 (zOf []) [] wq g (evs_nil wq _) (by decide) rfl (by simp))
        go_wp2_with fail
        refine (HE0.out _ gW).mono ?_; rintro x w2 ⟨rfl, hb2⟩
        go_wp2_with fail
        go_meet
        exact ⟨rfl, rfl, hb2⟩
      · injection hv with hv1 hv2 hv3
        subst hv1 hv3
        have hkc : (k : Int) ≤ (c0 : Int) := by omega
        have hkm' : (k : Int) ≤ (m : Int) := by omega
        have hc63 : c0 ≤ 9223372036854775807 := Nat.le_trans hcm2 (by decide)
        obtain ⟨_, a1, c1, hae, hE⟩ := evs_of_own HO2.out (fun e he => ok_wf (HO.out.1 e he))
        injection hae with ha1 ha2 ha3
        rw [← ha1] at hE
        have HX1 := hide (fun wq g (h : IsEvs wq (some ⟨G, 0, none⟩) m 4 (zOf es)) => etext_yes _ k c0 (zOf es) (es.take k) wq g (h.take hkm) (by omega) (evs_take (by omega)) HO.out.2.1)
        rw [HT.out.1] at HX1
        clear ha1 ha2 ha3
        go_wp2_with fail
        refine (HX1.out _ gW hE).mono ?_; rintro x w2 ⟨rfl, hb2⟩
        go_wp2_with fail
        go_meet
        exact ⟨rfl, rfl, hb2⟩
    case rest =>
    obtain ⟨rfl, rfl, hbd⟩ := hcut
    have gV := gW.keep hbd
    have hBV := below_after hBW hbd
    have hQV := keep_heap hbd hQ
    have HO3 := hide (own_keep HO2.out hbd)
    clear hBW hbd hQ HO2 gW
    obtain ⟨V, hVe⟩ : ∃ V, V = wc := ⟨_, rfl⟩
    rw [← hVe] at gV hBV hQV HO3
    rw [← hVe]
    clear hVe
    go_upto_region 5 with (fail)
    go_cut [12, 13, 36, 37, 38, 39, 40, 41, 42] (fun t12 t13 _ _ _ _ _ _ _ wc => t12 = .string ⟨T2.toArray⟩ ∧ t13 = .int .i64 0 ∧ Below V.heap.size V wc)
    case first =>
      rcases HO3.out.2 with ⟨hv, h0⟩ | ⟨G, cap', cur, hv, -, -, hmc, hcm2, -⟩
      · injection hv with hv1 hv2 hv3
        subst hv1 hv3 h0
        obtain rfl : k = 0 := by omega
        have es0 : es = [] := List.length_eq_zero_iff.1 hel
        have d1 : T2 = [] := by rw [← HT.out.2, es0]; rfl
        subst d1
        have HE0 : Hid (∀ wq, Gd wq → Calls Tryd.prog 28 #[.slice none 0 0] wq fun e w' => e = .returned (.tuple #[.string ⟨#[]⟩, .int .i64 0]) ∧ Below wq.heap.size wq w') := hide (fun wq g => etext_yes none 0 0 (zOf []) [] wq g (evs_nil wq _) (by decide) rfl (by simp))
        go_wp2_with fail
        refine (HE0.out _ gV).mono ?_; rintro x w2 ⟨rfl, hb2⟩
        go_wp2_with fail
        go_meet
        exact ⟨rfl, rfl, hb2⟩
      · injection hv with hv1 hv2 hv3
        subst hv1 hv3
        have hkc : (k : Int) ≤ (c0 : Int) := by omega
        have hkm' : (k : Int) ≤ (m : Int) := by omega
        have hc63 : c0 ≤ 9223372036854775807 := Nat.le_trans hcm2 (by decide)
        obtain ⟨_, a1, c1, hae, hE⟩ := evs_of_own HO3.out (fun e he => ok_wf (HO.out.1 e he))
        injection hae with ha1 ha2 ha3
        rw [← ha1] at hE
        clear ha1 ha2 ha3
        by_cases hck : k = c0
        · subst hck
          obtain rfl : k = m := by omega
          have HX2 : Hid (∀ wq, Gd wq → Calls Tryd.prog 28 #[.slice (some ⟨G, 0, none⟩) 0 0] wq fun e w' => e = .returned (.tuple #[.string ⟨(textE (es.drop k)).toArray⟩, .int .i64 0]) ∧ Below wq.heap.size wq w') := hide (fun wq g => etext_yes _ 0 0 (zOf es) (es.drop k) wq g (by exact ⟨Nat.zero_le _, Or.inl rfl⟩) (by decide) (by rw [List.drop_eq_nil_of_le (by omega)]; rfl) HO.out.2.2)
          rw [HT.out.2] at HX2
          go_wp2_with fail
          refine (HX2.out _ gV).mono ?_; rintro x w2 ⟨rfl, hb2⟩
          go_wp2_with fail
          go_meet
          exact ⟨rfl, rfl, hb2⟩
        · have HX2 := hide (fun wq g (h : IsEvs wq (some ⟨G, 0, none⟩) m 4 (zOf es)) => etext_yes _ (m - k) (c0 - k) _ (es.drop k) wq g (h.drop hkm) (by omega) (by rw [← hel]; exact evs_drop (by omega)) HO.out.2.2)
          rw [HT.out.2] at HX2
          simp only [Nat.zero_add] at HX2
          have hck2 : ¬ c0 - k = 0 := by omega
          have hck3 : ¬ c0 ≤ k := by omega
          go_wp2_with fail
          refine (HX2.out _ gV hE).mono ?_; rintro x w2 ⟨rfl, hb2⟩
          go_wp2_with fail
          go_meet
          exact ⟨rfl, rfl, hb2⟩
    case rest =>
    obtain ⟨rfl, rfl, hbd⟩ := hcut
    have gd := gV.keep hbd
    have hBd := below_after hBV hbd
    have hQd := keep_heap hbd hQV
    have t0 : wc.cell? ⟨Q, q, none⟩ = some (.string ⟨o.toArray⟩) := ecell hQd (by simp [hq27, HQ.out])
    have q1 : ¬ 9223372036854775807 < T1.length + o.length := by omega
    have q2 : ¬ 9223372036854775807 < T1.length + o.length + 1 := by omega
    have q3 : ¬ 9223372036854775807 < T1.length + o.length + 1 + T2.length := by omega
    have hq1 : (0 : Int) ≤ (q : Int) := by omega
    have hq2 : (q : Int) < 27 := by omega
    have HPA : Hid (∀ wq, Gd wq → Calls Tryd.prog 23 #[.string (⟨T1.toArray⟩ ++ ⟨o.toArray⟩ ++ ⟨#[10]⟩ ++ ⟨T2.toArray⟩)] wq fun x w' => x = .returned (.tuple #[.slice none 0 0, .int .i64 ((k : Int) + 1), .int .i64 4]) ∧ Below wq.heap.size wq w') := hide (fun wq g => by
      have hd : ((⟨T1.toArray⟩ ++ ⟨o.toArray⟩ ++ ⟨#[10]⟩ ++ ⟨T2.toArray⟩ : ByteArray)).data.toList = T1 ++ (o ++ 10 :: T2) := by simp
      have hs : ((⟨T1.toArray⟩ ++ ⟨o.toArray⟩ ++ ⟨#[10]⟩ ++ ⟨T2.toArray⟩ : ByteArray)).size ≤ 1048576 := by
        rw [Go.Proofs.YtjhkgoppopfoaaaDoor.szq, hd]; simp only [List.length_append, List.length_cons]; omega
      have hcn : (T1 ++ (o ++ 10 :: T2)).count 10 < 4000 := by
        have h1 := HCN.out.1
        have h2 := HCN.out.2
        rw [List.length_take] at h1
        rw [List.length_drop] at h2
        rw [List.count_append, List.count_append, List.count_eq_zero.2 HLF.out, List.count_cons_self]
        omega
      have := Go.Proofs.YtjhkgoppopfoaaaDoor.eparse_err _ (k + 1) wq g hs (by rw [hd]; exact hcn) (by rw [hd]; exact HPS.out)
      simpa using this)
    have hw1 : IntKind.i64.wrap ((k : Int) + 1) = (k : Int) + 1 := IntWalk.i64_in _ (by omega)
    clear ht1 ht2 hoz
    go_wp2_with fail
    refine (CW.out _).mono ?_; rintro x w2 ⟨rfl, rfl⟩
    go_wp2_with fail
    refine (HPA.out _ gd).mono ?_; rintro x w3 ⟨rfl, hb3⟩
    have g3 := gd.keep hb3
    have hB3 := below_after hBd hb3
    clear HPA hBd hb3 t0
    go_wp2_with fail
    refine (works22_any _ g3).mono ?_; rintro x w4 ⟨rfl, hb4⟩
    go_wp2_with fail
    go_ret
    exact ⟨rfl, below_after hB3 hb4⟩
end Go.Proofs.YtjhkgoppopfoaaaDoor
