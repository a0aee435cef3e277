/-
  Lines that are none: plain.
-/
import Derived.Test.YtjhkgoppopfoaaaDoorEvg
namespace Go.Proofs.YtjhkgoppopfoaaaDoor
open Go.RowKit Go.Lib
set_option linter.unusedVariables false
set_option linter.unusedSimpArgs false

theorem none_fit {o : Bs} {ws : List Bs} (hs : spl 32 o = ws) (h : ∀ k ∈ [1, 2, 3, 4, 5, 6], ¬ (ws.head? = some (word k) ∧ ws.length = (fds k).length + 1)) : readW (spl 32 o) = none := by
  rw [hs]
  refine readW_none fun e ⟨k, ⟨hk, hh, hl⟩, _⟩ => h k ?_ ⟨hh, hl⟩
  obtain rfl | rfl | rfl | rfl | rfl | rfl : k = 1 ∨ k = 2 ∨ k = 3 ∨ k = 4 ∨ k = 5 ∨ k = 6 := by omega
  all_goals simp
theorem none_bad {o : Bs} {ws : List Bs} {f : Fd} {w : Bs} (k j : Nat) (hs : spl 32 o = ws) (hk : 1 ≤ k ∧ k ≤ 6) (hh : ws.head? = some (word k)) (hf : (fds k)[j]? = some f) (hw : ws.tail[j]? = some w)
    (hbad : ∀ n, w = decDigits n → decFrom 0 w = some n → f.lo ≤ (n : Int) → (n : Int) ≤ f.hi → False) : readW (spl 32 o) = none := by
  refine readW_none fun e he => ?_
  obtain ⟨k', ⟨hk', hh', -⟩, -, -⟩ := id he
  obtain ⟨hok, rfl⟩ := reads_inv he
  rw [preL_spl hok] at hs
  subst hs
  simp only [List.head?_cons, Option.some.injEq] at hh
  have hkk : e.k.toNat = k := word_inj (by have := hok.1; omega) hk hh
  rw [List.tail_cons, List.getElem?_map, hkk, hf] at hw
  simp only [Option.map_some, Option.some.injEq] at hw
  have hm : f ∈ fds e.k.toNat := by rw [hkk]; exact List.mem_of_getElem? hf
  obtain ⟨h0, -⟩ := ok_range hok f hm
  have h1 := hok.2.1 f hm
  rw [itoa_pos h0] at hw
  refine hbad (e.at f.c).toNat hw.symm ?_ ?_ ?_
  · rw [← hw]; exact decFrom_digits _
  · omega
  · omega
def oddB : Nat → Bs
  | 0 => []
  | 1 => [32]
  | 2 => [97, 99, 107, 101, 100]
  | 3 => [97, 99, 107, 101, 100, 32, 48]
  | 4 => [97, 99, 107, 101, 100, 32, 48, 32, 48]
  | 5 => [97, 99, 107, 101, 100, 32, 48, 32, 48, 32, 49, 32, 49]
  | 6 => [97, 99, 107, 101, 100, 32, 51, 32, 49, 32, 49]
  | 7 => [97, 99, 107, 101, 100, 32, 32, 48, 32, 49, 32, 49]
  | 8 => [97, 99, 107, 101, 100, 32, 48, 32, 49, 32, 48]
  | 9 => [108, 111, 115, 116, 32, 48, 32, 49, 32, 54, 53, 53, 51, 54]
  | 10 => [108, 111, 115, 116, 32, 48, 32, 48, 49, 32, 49]
  | 11 => [108, 111, 115, 116, 32, 48, 32, 45, 49, 32, 49]
  | 12 => [112, 114, 111, 98, 101, 32, 48, 32, 48]
  | 13 => [112, 114, 111, 98, 101, 32, 48, 32, 51]
  | 14 => [119, 105, 110, 100, 111, 119, 32, 50, 51, 57, 57]
  | 15 => [119, 105, 110, 100, 111, 119, 32, 49, 48, 57, 57, 53, 49, 49, 54, 50, 55, 55, 55, 55]
  | 16 => [119, 105, 110, 100, 111, 119]
  | 17 => [99, 111, 108, 108, 97, 112, 115, 101]
  | 18 => [99, 111, 108, 108, 97, 112, 115, 101, 32]
  | 19 => [32, 99, 111, 108, 108, 97, 112, 115, 101, 32, 48]
  | 20 => [99, 111, 108, 108, 97, 112, 115, 101, 32, 51]
  | 21 => [99, 108, 111, 115, 101, 100, 32, 48]
  | 22 => [99, 108, 111, 115, 101, 100, 32, 49, 48, 48, 48]
  | 23 => [67, 108, 111, 115, 101, 100, 32, 49]
  | 24 => [99, 108, 111, 115, 101, 100, 32, 49, 13]
  | 25 => [108, 111, 115, 116, 32, 48, 32, 57, 48, 48, 55, 49, 57, 57, 50, 53, 52, 55, 52, 48, 57, 57, 50, 32, 49]
  | 26 => [108, 111, 115, 116, 32, 48, 32, 49, 50, 51, 52, 53, 54, 55, 56, 57, 48, 49, 50, 51, 52, 53, 54, 55, 32, 49]
  | _ => []
theorem odd_0 : readW (spl 32 []) = none := none_fit (ws := [[]]) rfl (by decide)
theorem odd_1 : readW (spl 32 [32]) = none := none_fit (ws := [[], []]) rfl (by decide)
theorem odd_2 : readW (spl 32 [97, 99, 107, 101, 100]) = none := none_fit (ws := [[97, 99, 107, 101, 100]]) rfl (by decide)
theorem odd_3 : readW (spl 32 [97, 99, 107, 101, 100, 32, 48]) = none := none_fit (ws := [[97, 99, 107, 101, 100], [48]]) rfl (by decide)
theorem odd_4 : readW (spl 32 [97, 99, 107, 101, 100, 32, 48, 32, 48]) = none := none_fit (ws := [[97, 99, 107, 101, 100], [48], [48]]) rfl (by decide)
theorem odd_5 : readW (spl 32 [97, 99, 107, 101, 100, 32, 48, 32, 48, 32, 49, 32, 49]) = none := none_fit (ws := [[97, 99, 107, 101, 100], [48], [48], [49], [49]]) rfl (by decide)
theorem odd_6 : readW (spl 32 [97, 99, 107, 101, 100, 32, 51, 32, 49, 32, 49]) = none :=
  none_bad (ws := [[97, 99, 107, 101, 100], [51], [49], [49]]) (f := ⟨1, 0, 2⟩) (w := [51]) 1 0 rfl (by decide) rfl rfl rfl fun n hw hd h1 h2 => by
    rw [show decFrom 0 [51] = some 3 from rfl] at hd
    obtain rfl := Option.some.inj hd
    simp only at h1 h2
    omega
theorem odd_7 : readW (spl 32 [97, 99, 107, 101, 100, 32, 32, 48, 32, 49, 32, 49]) = none := none_fit (ws := [[97, 99, 107, 101, 100], [], [48], [49], [49]]) rfl (by decide)
theorem odd_8 : readW (spl 32 [97, 99, 107, 101, 100, 32, 48, 32, 49, 32, 48]) = none :=
  none_bad (ws := [[97, 99, 107, 101, 100], [48], [49], [48]]) (f := ⟨3, 1, 65535⟩) (w := [48]) 1 2 rfl (by decide) rfl rfl rfl fun n hw hd h1 h2 => by
    rw [show decFrom 0 [48] = some 0 from rfl] at hd
    obtain rfl := Option.some.inj hd
    simp only at h1 h2
    omega
theorem odd_9 : readW (spl 32 [108, 111, 115, 116, 32, 48, 32, 49, 32, 54, 53, 53, 51, 54]) = none :=
  none_bad (ws := [[108, 111, 115, 116], [48], [49], [54, 53, 53, 51, 54]]) (f := ⟨3, 1, 65535⟩) (w := [54, 53, 53, 51, 54]) 2 2 rfl (by decide) rfl rfl rfl fun n hw hd h1 h2 => by
    rw [show decFrom 0 [54, 53, 53, 51, 54] = some 65536 from rfl] at hd
    obtain rfl := Option.some.inj hd
    simp only at h1 h2
    omega
theorem odd_10 : readW (spl 32 [108, 111, 115, 116, 32, 48, 32, 48, 49, 32, 49]) = none :=
  none_bad (ws := [[108, 111, 115, 116], [48], [48, 49], [49]]) (f := ⟨2, 0, 9007199254740991⟩) (w := [48, 49]) 2 1 rfl (by decide) rfl rfl rfl fun n hw hd h1 h2 => by
    rw [show decFrom 0 [48, 49] = some 1 from rfl] at hd
    obtain rfl := Option.some.inj hd
    rw [decDigits_one (by decide)] at hw
    simp at hw
theorem odd_11 : readW (spl 32 [108, 111, 115, 116, 32, 48, 32, 45, 49, 32, 49]) = none :=
  none_bad (ws := [[108, 111, 115, 116], [48], [45, 49], [49]]) (f := ⟨2, 0, 9007199254740991⟩) (w := [45, 49]) 2 1 rfl (by decide) rfl rfl rfl fun n hw hd h1 h2 => by
    rw [show decFrom 0 [45, 49] = none from rfl] at hd
    cases hd
theorem odd_12 : readW (spl 32 [112, 114, 111, 98, 101, 32, 48, 32, 48]) = none :=
  none_bad (ws := [[112, 114, 111, 98, 101], [48], [48]]) (f := ⟨3, 1, 2⟩) (w := [48]) 3 1 rfl (by decide) rfl rfl rfl fun n hw hd h1 h2 => by
    rw [show decFrom 0 [48] = some 0 from rfl] at hd
    obtain rfl := Option.some.inj hd
    simp only at h1 h2
    omega
theorem odd_13 : readW (spl 32 [112, 114, 111, 98, 101, 32, 48, 32, 51]) = none :=
  none_bad (ws := [[112, 114, 111, 98, 101], [48], [51]]) (f := ⟨3, 1, 2⟩) (w := [51]) 3 1 rfl (by decide) rfl rfl rfl fun n hw hd h1 h2 => by
    rw [show decFrom 0 [51] = some 3 from rfl] at hd
    obtain rfl := Option.some.inj hd
    simp only at h1 h2
    omega
theorem odd_14 : readW (spl 32 [119, 105, 110, 100, 111, 119, 32, 50, 51, 57, 57]) = none :=
  none_bad (ws := [[119, 105, 110, 100, 111, 119], [50, 51, 57, 57]]) (f := ⟨3, 2400, 1099511627776⟩) (w := [50, 51, 57, 57]) 4 0 rfl (by decide) rfl rfl rfl fun n hw hd h1 h2 => by
    rw [show decFrom 0 [50, 51, 57, 57] = some 2399 from rfl] at hd
    obtain rfl := Option.some.inj hd
    simp only at h1 h2
    omega
theorem odd_15 : readW (spl 32 [119, 105, 110, 100, 111, 119, 32, 49, 48, 57, 57, 53, 49, 49, 54, 50, 55, 55, 55, 55]) = none :=
  none_bad (ws := [[119, 105, 110, 100, 111, 119], [49, 48, 57, 57, 53, 49, 49, 54, 50, 55, 55, 55, 55]]) (f := ⟨3, 2400, 1099511627776⟩) (w := [49, 48, 57, 57, 53, 49, 49, 54, 50, 55, 55, 55, 55]) 4 0 rfl (by decide) rfl rfl rfl fun n hw hd h1 h2 => by
    rw [show decFrom 0 [49, 48, 57, 57, 53, 49, 49, 54, 50, 55, 55, 55, 55] = some 1099511627777 from rfl] at hd
    obtain rfl := Option.some.inj hd
    simp only at h1 h2
    omega
theorem odd_16 : readW (spl 32 [119, 105, 110, 100, 111, 119]) = none := none_fit (ws := [[119, 105, 110, 100, 111, 119]]) rfl (by decide)
theorem odd_17 : readW (spl 32 [99, 111, 108, 108, 97, 112, 115, 101]) = none := none_fit (ws := [[99, 111, 108, 108, 97, 112, 115, 101]]) rfl (by decide)
theorem odd_18 : readW (spl 32 [99, 111, 108, 108, 97, 112, 115, 101, 32]) = none :=
  none_bad (ws := [[99, 111, 108, 108, 97, 112, 115, 101], []]) (f := ⟨1, 0, 2⟩) (w := []) 5 0 rfl (by decide) rfl rfl rfl fun n hw hd h1 h2 => by
    exact digits_ne n hw.symm
theorem odd_19 : readW (spl 32 [32, 99, 111, 108, 108, 97, 112, 115, 101, 32, 48]) = none := none_fit (ws := [[], [99, 111, 108, 108, 97, 112, 115, 101], [48]]) rfl (by decide)
theorem odd_20 : readW (spl 32 [99, 111, 108, 108, 97, 112, 115, 101, 32, 51]) = none :=
  none_bad (ws := [[99, 111, 108, 108, 97, 112, 115, 101], [51]]) (f := ⟨1, 0, 2⟩) (w := [51]) 5 0 rfl (by decide) rfl rfl rfl fun n hw hd h1 h2 => by
    rw [show decFrom 0 [51] = some 3 from rfl] at hd
    obtain rfl := Option.some.inj hd
    simp only at h1 h2
    omega
theorem odd_21 : readW (spl 32 [99, 108, 111, 115, 101, 100, 32, 48]) = none :=
  none_bad (ws := [[99, 108, 111, 115, 101, 100], [48]]) (f := ⟨3, 1, 999⟩) (w := [48]) 6 0 rfl (by decide) rfl rfl rfl fun n hw hd h1 h2 => by
    rw [show decFrom 0 [48] = some 0 from rfl] at hd
    obtain rfl := Option.some.inj hd
    simp only at h1 h2
    omega
theorem odd_22 : readW (spl 32 [99, 108, 111, 115, 101, 100, 32, 49, 48, 48, 48]) = none :=
  none_bad (ws := [[99, 108, 111, 115, 101, 100], [49, 48, 48, 48]]) (f := ⟨3, 1, 999⟩) (w := [49, 48, 48, 48]) 6 0 rfl (by decide) rfl rfl rfl fun n hw hd h1 h2 => by
    rw [show decFrom 0 [49, 48, 48, 48] = some 1000 from rfl] at hd
    obtain rfl := Option.some.inj hd
    simp only at h1 h2
    omega
theorem odd_23 : readW (spl 32 [67, 108, 111, 115, 101, 100, 32, 49]) = none := none_fit (ws := [[67, 108, 111, 115, 101, 100], [49]]) rfl (by decide)
theorem odd_24 : readW (spl 32 [99, 108, 111, 115, 101, 100, 32, 49, 13]) = none :=
  none_bad (ws := [[99, 108, 111, 115, 101, 100], [49, 13]]) (f := ⟨3, 1, 999⟩) (w := [49, 13]) 6 0 rfl (by decide) rfl rfl rfl fun n hw hd h1 h2 => by
    rw [show decFrom 0 [49, 13] = none from rfl] at hd
    cases hd
theorem odd_25 : readW (spl 32 [108, 111, 115, 116, 32, 48, 32, 57, 48, 48, 55, 49, 57, 57, 50, 53, 52, 55, 52, 48, 57, 57, 50, 32, 49]) = none :=
  none_bad (ws := [[108, 111, 115, 116], [48], [57, 48, 48, 55, 49, 57, 57, 50, 53, 52, 55, 52, 48, 57, 57, 50], [49]]) (f := ⟨2, 0, 9007199254740991⟩) (w := [57, 48, 48, 55, 49, 57, 57, 50, 53, 52, 55, 52, 48, 57, 57, 50]) 2 1 rfl (by decide) rfl rfl rfl fun n hw hd h1 h2 => by
    rw [show decFrom 0 [57, 48, 48, 55, 49, 57, 57, 50, 53, 52, 55, 52, 48, 57, 57, 50] = some 9007199254740992 from rfl] at hd
    obtain rfl := Option.some.inj hd
    simp only at h1 h2
    omega
theorem odd_26 : readW (spl 32 [108, 111, 115, 116, 32, 48, 32, 49, 50, 51, 52, 53, 54, 55, 56, 57, 48, 49, 50, 51, 52, 53, 54, 55, 32, 49]) = none :=
  none_bad (ws := [[108, 111, 115, 116], [48], [49, 50, 51, 52, 53, 54, 55, 56, 57, 48, 49, 50, 51, 52, 53, 54, 55], [49]]) (f := ⟨2, 0, 9007199254740991⟩) (w := [49, 50, 51, 52, 53, 54, 55, 56, 57, 48, 49, 50, 51, 52, 53, 54, 55]) 2 1 rfl (by decide) rfl rfl rfl fun n hw hd h1 h2 => by
    rw [show decFrom 0 [49, 50, 51, 52, 53, 54, 55, 56, 57, 48, 49, 50, 51, 52, 53, 54, 55] = some 12345678901234567 from rfl] at hd
    obtain rfl := Option.some.inj hd
    simp only at h1 h2
    omega
theorem oddB_none : ∀ i, i < 27 → readW (spl 32 (oddB i)) = none
  | 0, _ => odd_0
  | 1, _ => odd_1
  | 2, _ => odd_2
  | 3, _ => odd_3
  | 4, _ => odd_4
  | 5, _ => odd_5
  | 6, _ => odd_6
  | 7, _ => odd_7
  | 8, _ => odd_8
  | 9, _ => odd_9
  | 10, _ => odd_10
  | 11, _ => odd_11
  | 12, _ => odd_12
  | 13, _ => odd_13
  | 14, _ => odd_14
  | 15, _ => odd_15
  | 16, _ => odd_16
  | 17, _ => odd_17
  | 18, _ => odd_18
  | 19, _ => odd_19
  | 20, _ => odd_20
  | 21, _ => odd_21
  | 22, _ => odd_22
  | 23, _ => odd_23
  | 24, _ => odd_24
  | 25, _ => odd_25
  | 26, _ => odd_26
  | n + 27, h => by omega
theorem oddB_lf (i : Nat) (h : i < 27) : (10 : UInt8) ∉ oddB i := by
  have : ∀ i ∈ List.range 27, (10 : UInt8) ∉ oddB i := by decide
  exact this i (List.mem_range.2 h)
theorem oddB_len (i : Nat) (h : i < 27) : (oddB i).length ≤ 30 := by
  have : ∀ i ∈ List.range 27, (oddB i).length ≤ 30 := by decide
  exact this i (List.mem_range.2 h)
end Go.Proofs.YtjhkgoppopfoaaaDoor
