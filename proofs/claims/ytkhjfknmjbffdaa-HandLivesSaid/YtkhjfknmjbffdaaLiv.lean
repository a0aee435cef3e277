/-
  The walk of HandLives: a space lives just if its keys came and it was not discarded behind that: it answers true whatever the calls, and turns nothing that was there.
-/
import Derived.Test.YtkhjfknmjbffdaaWorks
namespace Go.Proofs.Ytkhjfknmjbffdaa
open Go.RowKit Go.Sort
set_option linter.unusedVariables false
set_option linter.unusedSimpArgs false

/-- A block that holds three truths. -/
def IsB3 (w : World) (b : Nat) (f : Nat → Bool) : Prop := w.heap[b]? = some (.cells #[.bool (f 0), .bool (f 1), .bool (f 2)] 35 (0, 0))
theorem IsB3.lt {w : World} {b : Nat} {f : Nat → Bool} (h : IsB3 w b f) : b < w.heap.size := by
  unfold IsB3 at h
  rcases Nat.lt_or_ge b w.heap.size with h' | h'
  · exact h'
  · rw [Array.getElem?_eq_none h'] at h; cases h
theorem IsB3.keep {W w' : World} {b : Nat} {f : Nat → Bool} (h : IsB3 W b f) (hb : Below W.heap.size W w') : IsB3 w' b f := (hb.block b h.lt).trans h
theorem IsB3.at {w : World} {b : Nat} {f : Nat → Bool} (h : IsB3 w b f) {k : Nat} (hk : k < 3) : w.cell? ⟨b, k, none⟩ = some (.bool (f k)) ∧ w.frozen? ⟨b, k, none⟩ = false := by
  unfold IsB3 at h
  obtain rfl | rfl | rfl : k = 0 ∨ k = 1 ∨ k = 2 := by omega
  all_goals constructor
  all_goals simp [World.cell?, World.frozen?, h]
theorem IsB3.store {w : World} {b : Nat} {f g : Nat → Bool} (h : IsB3 w b f) {k : Nat} (hk : k < 3) (u : Bool) (hg : ∀ i, i < 3 → g i = if i = k then u else f i) : IsB3 (w.setCell ⟨b, k, none⟩ (.bool u)) b g := by
  unfold IsB3 at h ⊢
  rw [Joins.block_setCell h (.bool u), hg 0 (by omega), hg 1 (by omega), hg 2 (by omega)]
  obtain rfl | rfl | rfl : k = 0 ∨ k = 1 ∨ k = 2 := by omega
  all_goals simp
theorem IsB3.away {w : World} {b d : Nat} {f : Nat → Bool} (h : IsB3 w b f) (hne : b ≠ d) (o : Nat) (u : Value) : IsB3 (w.setCell ⟨d, o, none⟩ u) b f := by
  unfold IsB3 at h ⊢
  rw [Below.heap_setCell _ _ _ _ hne]; exact h
theorem IsHand.away1 {w : World} {b d : Nat} {S : HS} (h : IsHand w b S) (hne : b ≠ d) (o : Nat) (u : Value) : IsHand (w.setCell ⟨d, o, none⟩ u) b S := by
  unfold IsHand at h ⊢
  rw [Below.heap_setCell _ _ _ _ hne]; exact h

/-- The two tables that the statement keeps, of a handshake. -/
def HS.kN (S : HS) (i : Nat) : Bool := S.has (i : Int)
def HS.gN (S : HS) (i : Nat) : Bool := decide (S.st (i : Int) = 2)
theorem st_putn (S : HS) (x : Int) (i k : Nat) (hi : i < 3) (hk : k < 3) : (S.put (k : Int) x).st (i : Int) = if i = k then x else S.st (i : Int) := by
  obtain rfl | rfl | rfl : i = 0 ∨ i = 1 ∨ i = 2 := by omega
  all_goals
    obtain rfl | rfl | rfl : k = 0 ∨ k = 1 ∨ k = 2 := by omega
    all_goals simp [HS.put, HS.st]
theorem has_in (S : HS) (i : Nat) (hi : i < 3) : S.has (i : Int) = decide (S.st (i : Int) ≠ 0) := by
  unfold HS.has
  have : (0 ≤ (i : Int) ∧ (i : Int) < 3) := by omega
  simp [this]
theorem kN_keys (S : HS) (q : Int) (k : Nat) (hk : k < 3) (hq : q ≤ 1) : ∀ i, i < 3 → (S.callS q k).kN i = if i = k then true else S.kN i := by
  intro i hi
  unfold HS.kN HS.callS HS.keysS
  rw [if_pos hq, has_in _ i hi, has_in S i hi]
  by_cases h0 : S.st (k : Int) = 0
  · rw [if_pos ⟨by omega, h0⟩, st_putn S 1 i k hi hk]
    by_cases hik : i = k <;> simp [hik]
  · rw [if_neg (fun hh => h0 hh.2)]
    by_cases hik : i = k
    · subst hik; simp [h0]
    · simp [hik]
theorem gN_keys (S : HS) (q : Int) (k : Nat) (hk : k < 3) (hq : q ≤ 1) : ∀ i, i < 3 → (S.callS q k).gN i = S.gN i := by
  intro i hi
  unfold HS.gN HS.callS HS.keysS
  rw [if_pos hq]
  by_cases h0 : S.st (k : Int) = 0
  · rw [if_pos ⟨by omega, h0⟩, st_putn S 1 i k hi hk]
    by_cases hik : i = k
    · subst hik; simp [h0]
    · simp [hik]
  · rw [if_neg (fun hh => h0 hh.2)]
theorem needs_n (S : HS) (k : Nat) (hk : k < 3) : S.needs (k : Int) = 0 ↔ S.st (k : Int) = 1 := by
  unfold HS.needs
  rw [if_pos (by omega)]
  split <;> simp_all
theorem kN_disc (S : HS) (k : Nat) (hk : k < 3) : ∀ i, i < 3 → (S.callS 2 k).kN i = S.kN i := by
  intro i hi
  unfold HS.kN HS.callS HS.discS
  rw [if_neg (by omega), if_pos rfl, has_in _ i hi, has_in S i hi]
  split
  · rename_i h
    rw [st_putn S 2 i k hi hk]
    by_cases hik : i = k
    · subst hik; have := (needs_n S i hi).1 h.2; simp [this]
    · simp [hik]
  · rfl
theorem gN_disc (S : HS) (hok : S.ok) (k : Nat) (hk : k < 3) : ∀ i, i < 3 → (S.callS 2 k).gN i = if i = k then (S.gN k || (S.kN k && decide ((k : Int) < 2))) else S.gN i := by
  intro i hi
  have hin := st_in hok (k : Int)
  unfold HS.gN HS.kN HS.callS HS.discS
  rw [if_neg (by omega), if_pos rfl, has_in _ k hk]
  split
  · rename_i h
    rw [st_putn S 2 i k hi hk]
    have h1 := (needs_n S k hk).1 h.2
    by_cases hik : i = k
    · subst hik; simp [h1]; omega
    · simp [hik]
  · rename_i h
    by_cases hik : i = k
    · subst hik
      rw [if_pos rfl]
      by_cases h2 : (i : Int) = 2
      · simp [h2]
      · have h3 : ¬ S.needs (i : Int) = 0 := fun hh => h ⟨h2, hh⟩
        rw [needs_n S i hi] at h3
        obtain hs | hs : S.st (i : Int) = 0 ∨ S.st (i : Int) = 2 := by omega
        · simp [hs]
        · simp [hs]
    · rw [if_neg hik]
theorem kN_else (S : HS) (q : Int) (k : Nat) (hq : 2 < q) : ∀ i, i < 3 → (S.callS q k).kN i = S.kN i := by
  intro i hi
  unfold HS.kN
  rw [has_in _ i hi, has_in S i hi]
  unfold HS.callS
  rw [if_neg (by omega), if_neg (by omega)]
  split
  · rfl
  split
  · unfold HS.confS; split <;> rfl
  · unfold HS.ansS; split <;> rfl
theorem gN_else (S : HS) (q : Int) (k : Nat) (hq : 2 < q) : ∀ i, i < 3 → (S.callS q k).gN i = S.gN i := by
  intro i hi
  unfold HS.gN
  unfold HS.callS
  rw [if_neg (by omega), if_neg (by omega)]
  split
  · rfl
  split
  · unfold HS.confS; split <;> rfl
  · unfold HS.ansS; split <;> rfl
theorem IsB3.same {w : World} {b : Nat} {f g : Nat → Bool} (h : IsB3 w b f) (hg : ∀ i, i < 3 → g i = f i) : IsB3 w b g := by
  unfold IsB3 at h ⊢
  rw [hg 0 (by omega), hg 1 (by omega), hg 2 (by omega)]; exact h

def KRel (w : World) (h kb gb len : Nat) (F : HS) (S : HS) (z : Nat → Nat → Int) (i : Value) (wr : World) : Prop :=
  ∃ k : Nat, i = .int .i64 (k : Int) ∧ k ≤ len ∧ k ≤ 60 ∧ IsHand wr h F ∧ IsB3 wr kb (playN S z k).kN ∧ IsB3 wr gb (playN S z k).gN ∧ Below w.heap.size w wr
def MRel (W : World) (S : HS) (v i : Value) (wr : World) : Prop :=
  ∃ k : Nat, i = .int .i64 (k : Int) ∧ k ≤ 3 ∧ wr.ownsRow W.heap.size 3 1 v (liveN S k).length ((liveN S k).map (Value.int .i64)) ∧ Below W.heap.size W wr
theorem kN_start (sv : Bool) : (HS.start sv).kN 0 = true ∧ (HS.start sv).kN 1 = false ∧ (HS.start sv).kN 2 = false := by
  cases sv <;> decide
theorem gN_start (sv : Bool) : (HS.start sv).gN 0 = false ∧ (HS.start sv).gN 1 = false ∧ (HS.start sv).gN 2 = false := by
  cases sv <;> decide

theorem has_b (b : Nat) (S : HS) (s : Int) (w : World) (h : IsHand w b S) (hok : S.ok) : Calls Try.prog 19 #[.pointer (some ⟨b, 0, none⟩), .int .i64 s] w fun e w' => e = .returned (.bool (S.has s)) ∧ Below w.heap.size w w' :=
  (has_any b S s w h hok).mono fun _ _ ⟨he, hw⟩ => ⟨he, hw ▸ Below.refl _ _⟩
theorem lives_b (b : Nat) (S : HS) (s : Int) (w : World) (h : IsHand w b S) (hok : S.ok) : Calls Try.prog 12 #[.pointer (some ⟨b, 0, none⟩), .int .i64 s] w fun e w' => e = .returned (.bool (S.lives s)) ∧ Below w.heap.size w w' :=
  (lives_any b S s w h hok).mono fun _ _ ⟨he, hw⟩ => ⟨he, hw ▸ Below.refl _ _⟩
theorem three_ways (F : HS) (n : Nat) (hn : n < 3) (h : 0 ≤ F.st (n : Int) ∧ F.st (n : Int) ≤ 2) : ∃ K G L : Bool, F.kN n = K ∧ F.gN n = G ∧ F.has (n : Int) = K ∧ F.lives (n : Int) = L ∧ ((K = false ∧ G = false ∧ L = false) ∨ (K = true ∧ G = false ∧ L = true) ∨ (K = true ∧ G = true ∧ L = false)) := by
  refine ⟨F.kN n, F.gN n, F.lives (n : Int), rfl, rfl, rfl, rfl, ?_⟩
  have hl : F.lives (n : Int) = decide (F.st (n : Int) = 1) := by
    unfold HS.lives
    have : (0 ≤ (n : Int) ∧ (n : Int) < 3) := by omega
    simp [this]
  unfold HS.kN HS.gN
  rw [hl, has_in F n hn]
  obtain e | e | e : F.st (n : Int) = 0 ∨ F.st (n : Int) = 1 ∨ F.st (n : Int) = 2 := by omega
  all_goals simp [e]

theorem own_keep {w w' : World} {B : Nat} {e : TypeId} {size : Nat} {v : Value} {n : Nat} {xs : List Value} (h : w.ownsRow B e size v n xs) (hb : Below w.heap.size w w') : w'.ownsRow B e size v n xs := by
  obtain ⟨hl, h | ⟨g, cap, cur, hv, hB, hg, hn, hcap, hsz, hcur⟩⟩ := h
  · exact ⟨hl, Or.inl h⟩
  · have hlt : g < w.heap.size := by
      rcases Nat.lt_or_ge g w.heap.size with h' | h'
      · exact h'
      · rw [Array.getElem?_eq_none h'] at hg; cases hg
    exact ⟨hl, Or.inr ⟨g, cap, cur, hv, hB, (hb.block g hlt).trans hg, hn, hcap, hsz, hcur⟩⟩

set_option maxRecDepth 100000 in
set_option maxHeartbeats 8000000 in
theorem handLives_any (sv : Bool) (a : Option Addr) (len cap : Nat) (z : Nat → Nat → Int) (w : World) (hz : IsRows w a len 2 z) :
    Calls Try.prog 5 #[.bool sv, .slice a len cap] w fun e w' => e = .returned (.bool true) ∧ Below w.heap.size w w' := by
  have hlen := hz.1
  unfold maxLen at hlen
  go_enter Try.func5, Try.ntmps5
  go_wp2_with fail
  refine (played_any sv a len cap z w hz).mono ?_; rintro e w1 ⟨b, rfl, hB, hh, bel⟩
  go_wp2_with fail
  obtain ⟨kb, hkb⟩ : ∃ kb, kb = w1.heap.size := ⟨_, rfl⟩
  obtain ⟨gb, hgb⟩ : ∃ gb, gb = kb + 1 := ⟨_, rfl⟩
  obtain ⟨W, hW⟩ : ∃ W, W = (w1.alloc (Obj.cells #[Value.bool true, Value.bool false, Value.bool false] 35)).alloc (Obj.cells #[Value.bool false, Value.bool false, Value.bool false] 35) := ⟨_, rfl⟩
  have hb0 : Below w1.heap.size w1 W := by rw [hW]; exact ((Below.refl _ _).alloc (Nat.le_refl _) _).alloc (by show w1.heap.size ≤ (w1.heap.push _).size; simp) _
  obtain ⟨n0, n1, n2⟩ := kN_start sv
  obtain ⟨m0, m1, m2⟩ := gN_start sv
  have hk0 : IsB3 W kb (HS.start sv).kN := by
    unfold IsB3; rw [n0, n1, n2, hW, hkb]
    show ((w1.heap.push _).push _)[w1.heap.size]? = _
    rw [Array.getElem?_push, if_neg (by simp only [Array.size_push]; omega), Array.getElem?_push_size]
  have hg0 : IsB3 W gb (HS.start sv).gN := by
    unfold IsB3; rw [m0, m1, m2, hW, hgb, hkb]
    show ((w1.heap.push _).push _)[w1.heap.size + 1]? = _
    have : (w1.heap.push (Obj.cells #[Value.bool true, Value.bool false, Value.bool false] 35)).size = w1.heap.size + 1 := by simp
    rw [← this, Array.getElem?_push_size]
  rw [← hW, ← hkb, ← hgb]
  have hKw : w.heap.size ≤ kb := by have := bel.size; omega
  have hGw : w.heap.size ≤ gb := by omega
  have hkg : kb ≠ gb := by omega
  have hbk : b ≠ kb := by have := hh.lt; omega
  have hbg : b ≠ gb := by have := hh.lt; omega
  clear hW hgb hkb n0 n1 n2 m0 m1 m2
  replace hh := hh.keep hb0
  replace bel := below_after bel hb0
  clear hb0
  have hok := ok_play (ok_start sv) z (min len 60)
  obtain ⟨F, hF⟩ : ∃ F, F = playN (HS.start sv) z (min len 60) := ⟨_, rfl⟩
  rw [← hF] at hh hok
  have HF := hide hF
  clear hF
  go_loopw [8] (KRel w b kb gb len F (HS.start sv) z) (fun i _ => (len - (intOf i).toNat))
  case atStart => exact ⟨0, rfl, by omega, by omega, hh, hk0, hg0, bel⟩
  case round =>
    clear hh hk0 hg0 bel
    obtain ⟨k, rfl, hk, hk60, hh, hk1, hg1, bel⟩ := hrel
    by_cases hlt : k < len ∧ k < 60
    · obtain ⟨hlt, hlt60⟩ := hlt
      obtain ⟨bz, off, ha, hbz, c0, c1, ⟨lo0, hi0⟩, ⟨lo1, hi1⟩⟩ := hz.row bel hlt
      subst ha
      have hokS := ok_play (ok_start sv) z k
      obtain ⟨S, hSS⟩ : ∃ S, S = playN (HS.start sv) z k := ⟨_, rfl⟩
      have hS1 : playN (HS.start sv) z (k + 1) = S.callS (z k 0 % 6) (z k 1 % 3) := by rw [hSS]; rfl
      rw [← hSS] at hk1 hg1 hokS
      obtain ⟨q, hq⟩ : ∃ q, z k 0 % 6 = q := ⟨_, rfl⟩
      obtain ⟨p, hpp⟩ : ∃ p : Nat, z k 1 % 3 = (p : Int) := ⟨(z k 1 % 3).toNat, by omega⟩
      have p3 : p < 3 := by omega
      have q0 : 0 ≤ q := by omega
      have q6 : q < 6 := by omega
      rw [hq, hpp] at hS1
      have H := hide (And.intro hS1 (And.intro hq (And.intro hpp hokS)))
      clear hSS hS1 hq hpp hokS
      generalize z k 0 = t at *
      generalize z k 1 = s at *
      have kc := (hk1.at p3).1
      have gc := (hg1.at p3).1
      have kf := (hk1.at p3).2
      have gf := (hg1.at p3).2
      go_wp2_with fail
      refine (bring_eq s 3 p _ lo1 hi1 (by omega) (by omega) H.out.2.2.1).mono ?_; rintro e w' ⟨rfl, rfl⟩
      go_wp2_with fail
      refine (bring_eq t 6 q _ lo0 hi0 (by omega) (by omega) H.out.2.1).mono ?_; rintro e w' ⟨rfl, rfl⟩
      obtain hq1 | rfl | hq2 : (q = 0 ∨ q = 1) ∨ q = 2 ∨ (q = 3 ∨ q = 4 ∨ q = 5) := by omega
      · have e1 := hk1.store p3 true (kN_keys S q p p3 (by omega))
        have e2 := (hg1.away hkg.symm p (.bool true)).same (gN_keys S q p p3 (by omega))
        have e3 := hh.away1 hbk p (.bool true)
        have e4 := bel.setCell (p := ⟨kb, p, none⟩) hKw (.bool true)
        have HE := hide (And.intro e1 (And.intro e2 (And.intro e3 e4)))
        clear e1 e2 e3 e4
        rcases hq1 with rfl | rfl
        all_goals
          go_wp2_with fail
          go_roundw
          case rel => exact ⟨k + 1, by go_num, by omega, by omega, HE.out.2.2.1, by rw [H.out.1]; exact HE.out.1, by rw [H.out.1]; exact HE.out.2.1, HE.out.2.2.2⟩
          case measure => simp [intOf]; omega
      · obtain ⟨G, hG⟩ : ∃ G, S.gN p = G := ⟨_, rfl⟩
        obtain ⟨K, hK⟩ : ∃ K, S.kN p = K := ⟨_, rfl⟩
        rw [hG] at gc
        rw [hK] at kc
        have e1 := hg1.store p3 (G || (K && decide ((p : Int) < 2))) (by rw [← hG, ← hK]; exact gN_disc S H.out.2.2.2 p p3)
        have e2 := (hk1.away hkg p (.bool (G || (K && decide ((p : Int) < 2))))).same (kN_disc S p p3)
        have e3 := hh.away1 hbg p (.bool (G || (K && decide ((p : Int) < 2))))
        have e4 := bel.setCell (p := ⟨gb, p, none⟩) hGw (.bool (G || (K && decide ((p : Int) < 2))))
        obtain ⟨V, hV⟩ : ∃ V, (G || (K && decide ((p : Int) < 2))) = V := ⟨_, rfl⟩
        rw [hV] at e1 e2 e3 e4
        have HE := hide (And.intro e1 (And.intro e2 (And.intro e3 e4)))
        clear e1 e2 e3 e4 hG hK
        by_cases hp2 : (p : Int) < 2
        · rw [decide_eq_true hp2] at hV
          cases G <;> cases K
          all_goals
            simp at hV
            subst hV
            go_wp2_with fail
            go_roundw
            case rel => exact ⟨k + 1, by go_num, by omega, by omega, HE.out.2.2.1, by rw [H.out.1]; exact HE.out.2.1, by rw [H.out.1]; exact HE.out.1, HE.out.2.2.2⟩
            case measure => simp [intOf]; omega
        · have hdp := decide_eq_false hp2
          rw [hdp] at hV
          cases G <;> cases K
          all_goals
            simp at hV
            subst hV
            go_wp2_with fail
            try rw [hdp]
            go_roundw
            case rel => exact ⟨k + 1, by go_num, by omega, by omega, HE.out.2.2.1, by rw [H.out.1]; exact HE.out.2.1, by rw [H.out.1]; exact HE.out.1, HE.out.2.2.2⟩
            case measure => simp [intOf]; omega
      · have e1 := hk1.same (kN_else S q p (by omega))
        have e2 := hg1.same (gN_else S q p (by omega))
        have HE := hide (And.intro e1 e2)
        clear e1 e2 kc gc kf gf
        rcases hq2 with rfl | rfl | rfl
        all_goals
          go_wp2_with fail
          go_roundw
          case rel => exact ⟨k + 1, by go_num, by omega, by omega, hh, by rw [H.out.1]; exact HE.out.1, by rw [H.out.1]; exact HE.out.2, bel⟩
          case measure => simp [intOf]; omega
    · have hkm : k = min len 60 := by omega
      rw [hkm, ← HF.out] at hk1 hg1
      clear hkm hk
      have hsF := fun x : Nat => st_in hok (x : Int)
      have HS3 := hide hsF
      clear hsF
      obtain ⟨V, hV⟩ : ∃ V, V = wr := ⟨_, rfl⟩
      subst hV
      obtain ⟨i0, hi, hz0, hz1, hz2⟩ := info_parts Try.info3
      by_cases h1 : k < len
      all_goals
        go_wp2_with fail
        go_loopw [10, 11] (MRel V F) (fun _ i _ => (3 - (intOf i).toNat))
        case atStart => exact ⟨0, rfl, by omega, World.ownsRow_nil _ _ _ _, Below.refl _ _⟩
        case round =>
          obtain ⟨n, rfl, hn3, hown, bl⟩ := hrel
          have hh' := hh.keep bl
          have hk' := hk1.keep bl
          have hg' := hg1.keep bl
          have hlen := liveN_len F n
          by_cases hlt : n < 3
          · obtain ⟨K, G, L, eK, eG, eH, eL, hKGL⟩ := three_ways F n hlt (HS3.out n)
            have kc := (hk'.at hlt).1
            have gc := (hg'.at hlt).1
            rw [eK] at kc
            rw [eG] at gc
            have qk := cell_regrown kc
            have qg := cell_regrown gc
            have cH := fun d os => Calls.regrown_of (has_b b F (n : Int) (grow (redrawn wr d) os) (hh'.keep (below_regrown wr d os)) hok)
            have cL := fun d os => Calls.regrown_of (lives_b b F (n : Int) (grow (redrawn wr d) os) (hh'.keep (below_regrown wr d os)) hok)
            rw [eH] at cH
            rw [eL] at cL
            have hlN : liveN F (n + 1) = if L = true then liveN F n ++ [(n : Int)] else liveN F n := by rw [liveN, eL]
            replace cH := hide cH
            replace cL := hide cL
            have HL := hide hlN
            clear hlN eK eG eH eL
            rcases hKGL with ⟨rfl, rfl, rfl⟩ | ⟨rfl, rfl, rfl⟩ | ⟨rfl, rfl, rfl⟩
            · go_wp2_with fail
              refine wp_region_quiet_below (by kernel_rfl) (by kernel_rfl) ?_
              repeat (first | go_big_quiet_step ((first | (go_at_call 19; exact cH.out _ _) | (go_at_call 12; exact cL.out _ _))) | quiet_step ((first | (go_at_call 19; exact cH.out _ _) | (go_at_call 12; exact cL.out _ _))))
              refine wpQuiet_nil ?_
              intro W2 hw2
              obtain ⟨⟨dq, osq⟩, hw3⟩ := hw2
              have hbq : Below wr.heap.size wr W2 := by rw [hw3]; exact below_regrown wr dq osq
              have hown2 := own_keep hown hbq
              have kc2 := keep_cell hbq kc
              have gc2 := keep_cell hbq gc
              have bl2 := below_after bl hbq
              clear hown kc gc qk qg hbq hw3 bl hh' hk' hg'
              go_wp2_with fail
              go_roundw
              case rel => exact ⟨n + 1, by go_num, by omega, by rw [HL.out]; exact hown2, bl2⟩
              case measure => simp [intOf]; omega
            · go_wp2_with fail
              refine wp_region_quiet_below (by kernel_rfl) (by kernel_rfl) ?_
              repeat (first | go_big_quiet_step ((first | (go_at_call 19; exact cH.out _ _) | (go_at_call 12; exact cL.out _ _))) | quiet_step ((first | (go_at_call 19; exact cH.out _ _) | (go_at_call 12; exact cL.out _ _))))
              refine wpQuiet_nil ?_
              intro W2 hw2
              obtain ⟨⟨dq, osq⟩, hw3⟩ := hw2
              have hbq : Below wr.heap.size wr W2 := by rw [hw3]; exact below_regrown wr dq osq
              have hown2 := own_keep hown hbq
              have kc2 := keep_cell hbq kc
              have gc2 := keep_cell hbq gc
              have bl2 := below_after bl hbq
              clear hown kc gc qk qg hbq hw3 bl hh' hk' hg'
              go_wp2_with (at_builtin; refine wpList_append_own _ rfl _ _ 36 rfl V.heap.size 3 i0 (.int .i64 0) 1 8 Try.underlying36 hi hz0 hz1 hz2 rfl (by decide) _ _ _ rfl (hown2.alloc _) ⟨W2.heap.size, 0, none⟩ 1 1 [.int .i64 (n : Int)] rfl rfl ?c1 ?c2 ?c3 ?c4 ?c5 ?_)
              case c1 => exact cell_one_new _ _ _
              case c2 => simp [Value.oneCell']
              case c3 => unfold maxLen; omega
              case c4 => omega
              case c5 => have := bl2.size; simp; omega
              intro v' w1 hown' hgrow _
              go_wp2_with fail
              go_roundw
              case rel =>
                refine ⟨n + 1, by go_num, by omega, ?_, ?_⟩
                · rw [HL.out]; simpa using hown'
                · exact (bl2.alloc bl2.size _).grown hgrow (by have := bl2.size; simp; omega) (fun k hk => (hown2.lt k hk).1)
              case measure => simp [intOf]; omega
            · go_wp2_with fail
              refine wp_region_quiet_below (by kernel_rfl) (by kernel_rfl) ?_
              repeat (first | go_big_quiet_step ((first | (go_at_call 19; exact cH.out _ _) | (go_at_call 12; exact cL.out _ _))) | quiet_step ((first | (go_at_call 19; exact cH.out _ _) | (go_at_call 12; exact cL.out _ _))))
              refine wpQuiet_nil ?_
              intro W2 hw2
              obtain ⟨⟨dq, osq⟩, hw3⟩ := hw2
              have hbq : Below wr.heap.size wr W2 := by rw [hw3]; exact below_regrown wr dq osq
              have hown2 := own_keep hown hbq
              have kc2 := keep_cell hbq kc
              have gc2 := keep_cell hbq gc
              have bl2 := below_after bl hbq
              clear hown kc gc qk qg hbq hw3 bl hh' hk' hg'
              go_wp2_with fail
              go_roundw
              case rel => exact ⟨n + 1, by go_num, by omega, by rw [HL.out]; exact hown2, bl2⟩
              case measure => simp [intOf]; omega
          · obtain rfl : n = 3 := by omega
            have bel2 := below_after bel bl
            have hv := ints_of_own hown
            obtain ⟨xs, hxs⟩ : ∃ xs, xs = liveN F 3 := ⟨_, rfl⟩
            rw [← hxs] at hv hlen
            have clv := fun W' (h : IsHand W' b F) => live_any b F W' h hok
            rw [← hxs] at clv
            replace clv := hide clv
            clear hxs hown
            go_wp2_with fail
            refine (clv.out _ hh').mono ?_; rintro e w2 ⟨u, rfl, hu, hb⟩
            replace hv := hv.keep hb
            replace bel2 := below_after bel2 hb
            clear hb
            go_wp2_with fail
            refine (eqInts_any u u10 xs xs _ hu hv (by omega) (by omega)).mono ?_; rintro e w3 ⟨rfl, hb⟩
            replace bel2 := below_after bel2 hb
            clear hb
            rw [decide_eq_true rfl]
            go_wp2_with fail
            refine (works_any _).mono ?_; rintro e wx ⟨rfl, hb⟩
            go_wp2_with fail
            go_ret
            exact ⟨rfl, below_after bel2 hb⟩
end Go.Proofs.Ytkhjfknmjbffdaa
