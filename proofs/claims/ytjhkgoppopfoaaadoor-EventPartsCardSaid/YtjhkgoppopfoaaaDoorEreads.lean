/-
  The walks of EventReads and EventText.
-/
import Derived.Test.YtjhkgoppopfoaaaDoorEvv
import Derived.Test.YtjhkgoppopfoaaaDoorEvb
namespace Go.Proofs.YtjhkgoppopfoaaaDoor
open Go.RowKit Go.Lib Go.Maps
set_option linter.unusedVariables false
set_option linter.unusedSimpArgs false

theorem rparse_ok (s : ByteArray) (es : List Ev) (w : World) (hs : s.size ≤ 1048576) (hc : s.data.toList.count 10 < 4000) (hp : parseE s.data.toList = .ok es) :
    Calls Tryd.prog 24 #[.string s] w fun x w' => ∃ a cap, x = .returned (.tuple #[.slice a es.length cap, .int .i64 0, .int .i64 0]) ∧ IsEvs w' a es.length 4 (zOf es) ∧ Below w.heap.size w w' := by
  refine (rparse_any s w hs hc).mono ?_
  rintro x w' ⟨⟨a, cap, es', rfl, he, hE⟩ | ⟨k, rfl, he⟩, hb⟩
  · rw [hp] at he
    cases he
    exact ⟨a, cap, rfl, hE, hb⟩
  · rw [hp] at he; cases he
theorem rparse_err (s : ByteArray) (k : Nat) (w : World) (hs : s.size ≤ 1048576) (hc : s.data.toList.count 10 < 4000) (hp : parseE s.data.toList = .error k) :
    Calls Tryd.prog 24 #[.string s] w fun x w' => x = .returned (.tuple #[.slice none 0 0, .int .i64 (k : Int), .int .i64 4]) ∧ Below w.heap.size w w' := by
  refine (rparse_any s w hs hc).mono ?_
  rintro x w' ⟨⟨a, cap, es', rfl, he, hE⟩ | ⟨k', rfl, he⟩, hb⟩
  · rw [hp] at he; cases he
  · rw [hp] at he
    cases he
    exact ⟨rfl, hb⟩
theorem cut3000 (s : ByteArray) : (s.extract 0 (min (s.size : Int) 3000).toNat).size ≤ 3000 := by
  rw [ByteArray.size_extract]; omega
theorem evs_nil (w : World) (z : Nat → Nat → Int) : IsEvs w none 0 4 z := ⟨Nat.zero_le _, Or.inl rfl⟩
theorem ecnt (s : ByteArray) (n : Nat) (w : World) (h : s.data.toList.count 10 = n) : Calls Tryd.prog 29 #[.string s, .string ⟨#[10]⟩] w fun e w' => e = .returned (.int .i64 (n : Int)) ∧ w = w' :=
  (Tryd.strings_Count_one s 10 w).mono fun e w' ⟨a, b⟩ => ⟨by rw [a, ← h]; rfl, b.symm⟩
set_option maxRecDepth 100000 in
set_option maxHeartbeats 4000000 in
theorem eventReads_any (s : ByteArray) (w : World) (g : Gd w) : Calls Tryd.prog 5 #[.string s] w fun e w' => e = .returned (.bool true) ∧ Below w.heap.size w w' := by
  have h2 := cut3000 s
  go_enter Tryd.func5, Tryd.ntmps5
  go_wp2_with fail
  generalize s.extract 0 (min (s.size : Int) 3000).toNat = t at h2 ⊢
  have hc : t.data.toList.count 10 < 4000 := by
    have h1 := List.count_le_length (a := (10 : UInt8)) (l := t.data.toList)
    have h3 : t.data.toList.length = t.size := (size_eq t).symm
    omega
  cases hp : parseE t.data.toList with
  | ok es =>
    have HQ := hide (fun w => rparse_ok t es w (by omega) hc hp)
    refine (eparse_ok t es _ g (by omega) hc hp).mono ?_; rintro x w1 ⟨a, cap, rfl, hE1, hb1⟩
    have g1 := g.keep hb1
    have HE := hide hE1
    clear hp hc h2 hE1
    go_wp2_with fail
    refine (HQ.out _).mono ?_; rintro x w2 ⟨a2, cap2, rfl, hE2, hb2⟩
    have hE1 := HE.out.keep hb2
    have g2 := g1.keep hb2
    have hB := below_after hb1 hb2
    go_wp2_with fail
    refine (equal_yes a a2 es.length cap cap2 (zOf es) (zOf es) _ hE1 hE2 (fun _ _ => rfl)).mono ?_; rintro x w3 ⟨rfl, hb3⟩
    have hB3 := below_after hB hb3
    have g3 := g2.keep hb3
    clear hE1 hE2 HE HQ hb1 hb2 hb3 hB
    go_wp2_with fail
    refine (works22_any _ g3).mono ?_; rintro x w4 ⟨rfl, hb4⟩
    go_wp2_with fail
    go_ret
    exact ⟨rfl, below_after hB3 hb4⟩
  | error k =>
    have HQ := hide (fun w => rparse_err t k w (by omega) hc hp)
    refine (eparse_err t k _ g (by omega) hc hp).mono ?_; rintro x w1 ⟨rfl, hb1⟩
    have g1 := g.keep hb1
    clear hp hc h2
    go_wp2_with fail
    refine (HQ.out _).mono ?_; rintro x w2 ⟨rfl, hb2⟩
    have g2 := g1.keep hb2
    have hB := below_after hb1 hb2
    go_wp2_with fail
    refine (equal_yes none none 0 0 0 (zOf []) (zOf []) _ (evs_nil _ _) (evs_nil _ _) (fun _ _ => rfl)).mono ?_; rintro x w3 ⟨rfl, hb3⟩
    have hB3 := below_after hB hb3
    have g3 := g2.keep hb3
    clear HQ hb1 hb2 hb3 hB
    go_wp2_with fail
    refine (works22_any _ g3).mono ?_; rintro x w4 ⟨rfl, hb4⟩
    go_wp2_with fail
    go_ret
    exact ⟨rfl, below_after hB3 hb4⟩
set_option maxRecDepth 100000 in
set_option maxHeartbeats 4000000 in
theorem eventText_any (s : ByteArray) (w : World) (g : Gd w) : Calls Tryd.prog 7 #[.string s] w fun e w' => e = .returned (.bool true) ∧ Below w.heap.size w w' := by
  have h2 := cut3000 s
  go_enter Tryd.func7, Tryd.ntmps7
  go_wp2_with fail
  generalize s.extract 0 (min (s.size : Int) 3000).toNat = t at h2 ⊢
  have hn : t.data.toList.count 10 ≤ 3000 := by
    have h1 := List.count_le_length (a := (10 : UInt8)) (l := t.data.toList)
    have h3 : t.data.toList.length = t.size := (size_eq t).symm
    omega
  have hc : t.data.toList.count 10 < 4000 := by omega
  cases hp : parseE t.data.toList with
  | ok es =>
    obtain ⟨htx, hok⟩ := parse_ok_inv _ t.data.toList 0 es (Nat.le_refl _) hp
    have hlen : es.length ≤ 4000 := by
      have := textE_count es hok
      rw [← htx] at this
      omega
    refine (eparse_ok t es _ g (by omega) hc hp).mono ?_; rintro x w1 ⟨a, cap, rfl, hE1, hb1⟩
    have g1 := g.keep hb1
    have HT : Hid ((⟨(textE es).toArray⟩ : ByteArray) = t) := hide (by rw [← htx, mk_data])
    have HO := hide hok
    have HL := hide hlen
    clear hp hc h2 htx hok hn hlen
    go_wp2_with fail
    refine (etext_yes a es.length cap (zOf es) es _ g1 hE1 HL.out (evs_zOf es) HO.out).mono ?_; rintro x w2 ⟨rfl, hb2⟩
    rw [HT.out]
    have g2 := g1.keep hb2
    have hB := below_after hb1 hb2
    clear hE1 hb1 hb2
    go_wp2_with fail
    refine (works22_any _ g2).mono ?_; rintro x w4 ⟨rfl, hb4⟩
    go_wp2_with fail
    go_ret
    exact ⟨rfl, below_after hB hb4⟩
  | error k =>
    obtain ⟨k1, k2⟩ := parse_err_inv _ t.data.toList 0 k (Nat.le_refl _) hp
    refine (eparse_err t k _ g (by omega) hc hp).mono ?_; rintro x w1 ⟨rfl, hb1⟩
    have g1 := g.keep hb1
    obtain ⟨n, hne⟩ : ∃ n, t.data.toList.count 10 = n := ⟨_, rfl⟩
    rw [hne] at hn k2
    have HN := hide hne
    have hk1 : (1 : Int) ≤ (k : Int) := by omega
    have hk2 : (k : Int) ≤ 1 + (n : Int) := by omega
    clear hp hc h2 hne k1 k2
    go_wp2_with fail
    refine (ecnt t n _ HN.out).mono ?_; rintro x w' ⟨rfl, rfl⟩
    go_wp2_with fail
    refine (works22_any _ g1).mono ?_; rintro x w4 ⟨rfl, hb4⟩
    go_wp2_with fail
    go_ret
    exact ⟨rfl, below_after hb1 hb4⟩
end Go.Proofs.YtjhkgoppopfoaaaDoor
