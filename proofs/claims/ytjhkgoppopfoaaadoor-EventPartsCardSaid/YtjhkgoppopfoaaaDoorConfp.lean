/-
  The chapter's examples for settings, as plain facts. No program here.
-/
import Derived.Test.YtjhkgoppopfoaaaDoorCf
namespace Go.Proofs.YtjhkgoppopfoaaaDoor
set_option linter.unusedVariables false
set_option linter.unusedSimpArgs false
open Go.Lib
theorem dd (n : Nat) (h : ¬ n < 10) : decDigits n = decDigits (n / 10) ++ [UInt8.ofNat (48 + n % 10)] := by rw [decDigits, dif_neg h]
theorem itoa_1200 : itoa 1200 = [49, 50, 48, 48] := by
  rw [show (1200 : Int) = ((1200 : Nat) : Int) from rfl, itoa_nat, dd 1200 (by decide), dd (1200 / 10) (by decide), decDigits_two (by decide) (by decide)]; rfl
theorem itoa_12000 : itoa 12000 = [49, 50, 48, 48, 48] := by
  rw [show (12000 : Int) = ((12000 : Nat) : Int) from rfl, itoa_nat, dd 12000 (by decide), dd (12000 / 10) (by decide), dd (12000 / 10 / 10) (by decide), decDigits_two (by decide) (by decide)]; rfl
theorem itoa_most : itoa 16777216 = [49, 54, 55, 55, 55, 50, 49, 54] := by
  rw [show (16777216 : Int) = ((16777216 : Nat) : Int) from rfl, itoa_nat, dd 16777216 (by decide), dd (16777216 / 10) (by decide), dd (16777216 / 10 / 10) (by decide), dd (16777216 / 10 / 10 / 10) (by decide), dd (16777216 / 10 / 10 / 10 / 10) (by decide), dd (16777216 / 10 / 10 / 10 / 10 / 10) (by decide), decDigits_two (by decide) (by decide)]; rfl
theorem itoa_rtt : itoa 333000000 = [51, 51, 51, 48, 48, 48, 48, 48, 48] := by
  rw [show (333000000 : Int) = ((333000000 : Nat) : Int) from rfl, itoa_nat, dd 333000000 (by decide), dd (333000000 / 10) (by decide), dd (333000000 / 10 / 10) (by decide), dd (333000000 / 10 / 10 / 10) (by decide), dd (333000000 / 10 / 10 / 10 / 10) (by decide), dd (333000000 / 10 / 10 / 10 / 10 / 10) (by decide), dd (333000000 / 10 / 10 / 10 / 10 / 10 / 10) (by decide), decDigits_two (by decide) (by decide)]; rfl
theorem itoa_1 : itoa 1 = [49] := by rw [show (1 : Int) = ((1 : Nat) : Int) from rfl, itoa_nat, decDigits_one (by decide)]; rfl
theorem dig_4 : decDigits 4 = [52] := by rw [decDigits_one (by decide)]; rfl
theorem dig_1 : decDigits 1 = [49] := by rw [decDigits_one (by decide)]; rfl
theorem dig_2400 : decDigits 2400 = [50, 52, 48, 48] := by
  rw [dd 2400 (by decide), dd (2400 / 10) (by decide), decDigits_two (by decide) (by decide)]; rfl
theorem dflt_ok (sv : Bool) : (Cf.dflt sv).ok := by cases sv <;> (unfold Cf.ok Cf.dflt; decide)
theorem text_dflt : hasPrefix (textC (Cf.dflt true)) [115, 101, 114, 118, 101, 114, 32, 49, 10, 100, 97, 116, 97, 103, 114, 97, 109, 32, 49, 50, 48, 48, 10, 102, 105, 114, 115, 116, 32, 49, 50, 48, 48, 48, 10, 109, 111, 115, 116, 32, 49, 54, 55, 55, 55, 50, 49, 54, 10, 114, 116, 116, 32, 51, 51, 51, 48, 48, 48, 48, 48, 48, 10] = true := by
  have e : textC (Cf.dflt true) = rowT (Cf.dflt true) 0 ++ [10] ++ (rowT (Cf.dflt true) 1 ++ [10] ++ (rowT (Cf.dflt true) 2 ++ [10] ++ (rowT (Cf.dflt true) 3 ++ [10] ++ (rowT (Cf.dflt true) 4 ++ [10] ++ ((List.range 10).drop 5).flatMap fun k => rowT (Cf.dflt true) k ++ [10])))) := rfl
  rw [e]
  generalize ((List.range 10).drop 5).flatMap (fun k => rowT (Cf.dflt true) k ++ [10]) = z
  have r0 : rowT (Cf.dflt true) 0 = nm 0 ++ 32 :: itoa 1 := rfl
  have r1 : rowT (Cf.dflt true) 1 = nm 1 ++ 32 :: itoa 1200 := rfl
  have r2 : rowT (Cf.dflt true) 2 = nm 2 ++ 32 :: itoa 12000 := rfl
  have r3 : rowT (Cf.dflt true) 3 = nm 3 ++ 32 :: itoa 16777216 := rfl
  have r4 : rowT (Cf.dflt true) 4 = nm 4 ++ 32 :: itoa 333000000 := rfl
  rw [r0, r1, r2, r3, r4, itoa_1, itoa_1200, itoa_12000, itoa_most, itoa_rtt]
  rfl
def room4 : Bs := [114, 111, 111, 109, 32, 52]
def room04 : Bs := [114, 111, 111, 109, 32, 48, 52]
def room1 : Bs := [114, 111, 111, 109, 32, 49]
def twice : Bs := [102, 105, 114, 115, 116, 32, 50, 52, 48, 48, 10, 102, 105, 114, 115, 116, 32, 50, 52, 48, 48]
theorem parse_room4 : parseC room4 = ({ Cf.dflt false with ro := 4 }, 0, 0) := by
  have h := rdLine_put (l := room4) St.none (k := 8) (n := 4) (by decide) (by rw [dig_4]; decide) (by rw [dig_4]; decide) rfl (by decide)
  have hr : rd (spl 10 room4) 0 St.none = .ok (St.none.put 8 4) := by
    rw [show spl 10 room4 = [room4] from by decide]
    simp only [rd, h]
  unfold parseC
  rw [if_neg (by decide), hr]
  have hcf : (St.none.put 8 4).cf = { Cf.dflt false with ro := 4 } := rfl
  simp only [hcf]
  rw [if_pos (by unfold Cf.ok Cf.dflt; decide)]
theorem parse_room1 : parseC room1 = (Cf.zero, 0, 9) := by
  have h := rdLine_put (l := room1) St.none (k := 8) (n := 1) (by decide) (by rw [dig_1]; decide) (by rw [dig_1]; decide) rfl (by decide)
  have hr : rd (spl 10 room1) 0 St.none = .ok (St.none.put 8 1) := by
    rw [show spl 10 room1 = [room1] from by decide]
    simp only [rd, h]
  unfold parseC
  rw [if_neg (by decide), hr]
  have hcf : (St.none.put 8 1).cf = { Cf.dflt false with ro := 1 } := rfl
  simp only [hcf]
  rw [if_neg (by unfold Cf.ok Cf.dflt; decide)]
theorem num_04 : numP [48, 52] = none := by
  unfold numP
  rw [show atoiAll [48, 52] = .ok 4 from by decide]
  simp only
  rw [if_neg]
  rintro ⟨_, _, h⟩
  rw [show (4 : Int) = ((4 : Nat) : Int) from rfl, itoa_nat, dig_4] at h
  exact absurd h (by decide)
theorem parse_room04 : parseC room04 = (Cf.zero, 1, 4) := by
  have h : rdLine room04 St.none = none := by
    unfold rdLine
    rw [show wds room04 = [[114, 111, 111, 109], [48, 52]] from by decide]
    simp only
    rw [if_neg (by decide), show place [114, 111, 111, 109] = some 8 from by decide]
    simp [St.none, num_04]
  unfold parseC
  rw [if_neg (by decide), show spl 10 room04 = [room04] from by decide]
  simp only [rd, h]
theorem parse_twice : parseC twice = (Cf.zero, 2, 4) := by
  have hf : wds [102, 105, 114, 115, 116, 32, 50, 52, 48, 48] = [nm 2, decDigits 2400] := by rw [dig_2400]; decide
  have h := rdLine_put (l := [102, 105, 114, 115, 116, 32, 50, 52, 48, 48]) St.none (k := 2) (n := 2400) (by decide) hf (by rw [dig_2400]; decide) rfl (by decide)
  have h2 : rdLine [102, 105, 114, 115, 116, 32, 50, 52, 48, 48] (St.none.put 2 2400) = none := by
    unfold rdLine
    rw [hf]
    simp only
    rw [if_neg (by decide), place_nm (by decide)]
    simp [St.put]
  unfold parseC
  rw [if_neg (by decide), show spl 10 twice = [[102, 105, 114, 115, 116, 32, 50, 52, 48, 48], [102, 105, 114, 115, 116, 32, 50, 52, 48, 48]] from by decide]
  simp only [rd, h, h2]
end Go.Proofs.YtjhkgoppopfoaaaDoor
