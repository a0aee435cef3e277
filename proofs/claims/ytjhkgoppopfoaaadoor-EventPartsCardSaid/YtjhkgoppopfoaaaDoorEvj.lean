/-
  The document's words and number for events.
-/
import Derived.Test.YtjhkgoppopfoaaaDoorEvk
import Derived.Test.YtjhkgoppopfoaaaDoorEvw
namespace Go.Proofs.YtjhkgoppopfoaaaDoor
open Go.RowKit Go.Lib Go.Maps
set_option linter.unusedVariables false
set_option linter.unusedSimpArgs false

theorem decFrom_bad : ∀ (l : Bs) (a : Nat) (b : UInt8) (r : Bs), digitVal b = none → decFrom a (l ++ b :: r) = none
  | [], a, b, r, h => by simp [decFrom, h]
  | x :: l, a, b, r, h => by
    rw [List.cons_append]
    unfold decFrom
    cases hx : digitVal x with
    | none => rfl
    | some d => exact decFrom_bad l _ b r h
theorem take_snoc_at {l : Bs} {k : Nat} {b : UInt8} (h : l[k]? = some b) : l.take (k + 1) = l.take k ++ [b] := by
  rw [List.take_add_one, h]; rfl
theorem byte_at (s : ByteArray) (k : Nat) (h : k < s.size) : s.data.toList[k]? = some (s[k]'h) := by
  have h' : k < s.data.size := h
  rw [Array.getElem?_toList, Array.getElem?_eq_getElem h']
  rfl
theorem digit_no {b : UInt8} (h : ¬ (48 ≤ b.toNat ∧ b.toNat ≤ 57)) : digitVal b = none := by
  unfold digitVal
  rw [if_neg h]
theorem digit_yes {b : UInt8} (h : 48 ≤ b.toNat ∧ b.toNat ≤ 57) : digitVal b = some (b.toNat - 48) := by
  unfold digitVal
  rw [if_pos h]
def RnRel (s : ByteArray) (w : World) (i n : Value) (wr : World) : Prop := ∃ k m : Nat, i = .int .i64 (k : Int) ∧ k ≤ s.size ∧ (16 < s.size → k = 0) ∧ n = .int .i64 (m : Int) ∧ decFrom 0 (s.data.toList.take k) = some m ∧ w = wr
theorem numR_long {l : Bs} (h : 16 < l.length) : numR l = -1 := by unfold numR; rw [if_pos (Or.inr h)]
theorem numR_nil {l : Bs} (h : l.length = 0) : numR l = -1 := by unfold numR; rw [if_pos (Or.inl h)]
theorem numR_some {l : Bs} {m : Nat} (h0 : l.length ≠ 0) (h1 : l.length ≤ 16) (h : decFrom 0 l = some m) : numR l = (m : Int) := by
  unfold numR; rw [if_neg (by omega), h]
theorem numR_none {l : Bs} (h0 : l.length ≠ 0) (h1 : l.length ≤ 16) (h : decFrom 0 l = none) : numR l = -1 := by
  unfold numR; rw [if_neg (by omega), h]
set_option maxRecDepth 100000 in
set_option maxHeartbeats 4000000 in
theorem rnumber_any (s : ByteArray) (hs : s.size ≤ 1048576) (w : World) : Calls Tryd.prog 92 #[.string s] w fun e w' => e = .returned (.int .i64 (numR s.data.toList)) ∧ w = w' := by
  have hsl : s.data.toList.length = s.size := (size_eq s).symm
  have HL := hide hsl
  clear hsl
  go_enter Tryd.func92, Tryd.ntmps92
  go_wp2_with fail
  go_loopw [4, 3] (RnRel s w) (fun i _ _ => (s.size - intOf i).toNat)
  case atStart => exact ⟨0, 0, rfl, Nat.zero_le _, fun _ => rfl, rfl, by simp [decFrom], rfl⟩
  case round =>
    obtain ⟨k, m, rfl, hk, h16, rfl, hd, rfl⟩ := hrel
    have hk0 : (0 : Int) ≤ (k : Int) := by omega
    by_cases hbig : 16 < s.size
    · obtain rfl := h16 hbig
      have hbig' : ¬ ((s.size : Int) ≤ 16) := by omega
      have hbig2 : (16 : Int) < (s.size : Int) := by omega
      have hpos : (0 : Int) < (s.size : Int) := by omega
      have hne : ((s.size : Int) == 0) = false := beq_eq_false_iff_ne.2 (by omega)
      have HR := hide (numR_long (l := s.data.toList) (by rw [HL.out]; exact hbig))
      have HD := hide hd
      clear hd h16
      go_wp2_with fail
      go_ret
      exact ⟨by rw [HR.out]; rfl, rfl⟩
    · have hsm : (s.size : Int) ≤ 16 := by omega
      by_cases hlt : k < s.size
      · have hkl : (k : Int) < (s.size : Int) := by omega
        have hb := byte_at s k hlt
        have hsnoc := take_snoc_at hb
        have hmm := decFrom_lt _ _ _ hd
        have hm16 : m < 10000000000000000 := by
          rw [List.length_take] at hmm
          have h2 : (10 : Nat) ^ (min k s.data.toList.length) ≤ 10 ^ 16 := Nat.pow_le_pow_right (by decide) (by have := HL.out; omega)
          have h3 : (10 : Nat) ^ 16 = 10000000000000000 := by decide
          omega
        have hsplit : s.data.toList = s.data.toList.take k ++ (s[k]'hlt) :: s.data.toList.drop (k + 1) := by
          have hk' : k < s.data.toList.length := by rw [HL.out]; exact hlt
          rw [List.getElem?_eq_getElem hk', Option.some.injEq] at hb
          rw [← hb, ← List.drop_eq_getElem_cons hk', List.take_append_drop]
        have HN : Hid ((48 ≤ (s[k]'hlt).toNat ∧ (s[k]'hlt).toNat ≤ 57) → decFrom 0 (s.data.toList.take (k + 1)) = some (m * 10 + ((s[k]'hlt).toNat - 48))) := hide (fun h => by rw [hsnoc]; exact decFrom_snoc _ 0 m _ _ hd (digit_yes h))
        have HR : Hid (¬ (48 ≤ (s[k]'hlt).toNat ∧ (s[k]'hlt).toNat ≤ 57) → numR s.data.toList = -1) := hide (fun h => numR_none (by rw [HL.out]; omega) (by rw [HL.out]; omega) (by rw [hsplit]; exact decFrom_bad _ _ _ _ (digit_no h)))
        have hb8 : (s[k]'hlt).toNat < 256 := (s[k]'hlt).toNat_lt
        clear hmm hsplit hsnoc hb hd
        obtain ⟨B, hB⟩ : ∃ B, (s[k]'hlt).toNat = B := ⟨_, rfl⟩
        rw [hB] at HN HR hb8
        by_cases h48 : 48 ≤ B
        · by_cases h57 : B ≤ 57
          · go_wp2_with fail
            go_roundw
            case rel => exact ⟨k + 1, m * 10 + (B - 48), by go_num, by omega, fun h => by omega, by go_num, HN.out ⟨h48, h57⟩, rfl⟩
            case measure => simp [intOf]; omega
          · go_wp2_with fail
            go_ret
            exact ⟨by rw [HR.out (by omega)]; rfl, rfl⟩
        · go_wp2_with fail
          go_ret
          exact ⟨by rw [HR.out (by omega)]; rfl, rfl⟩
      · obtain rfl : k = s.size := by omega
        have htk : s.data.toList.take s.size = s.data.toList := by rw [← HL.out, List.take_length]
        rw [htk] at hd
        by_cases h0 : s.size = 0
        · have HR := hide (numR_nil (l := s.data.toList) (by rw [HL.out]; exact h0))
          clear hd htk
          go_wp2_with fail
          go_ret
          exact ⟨by rw [HR.out]; rfl, rfl⟩
        · have HR := hide (numR_some (l := s.data.toList) (by rw [HL.out]; exact h0) (by rw [HL.out]; omega) hd)
          have h0' : ((s.size : Int) == 0) = false := beq_eq_false_iff_ne.2 (by omega)
          clear hd htk
          go_wp2_with fail
          go_ret
          exact ⟨by rw [HR.out]; rfl, rfl⟩
end Go.Proofs.YtjhkgoppopfoaaaDoor
