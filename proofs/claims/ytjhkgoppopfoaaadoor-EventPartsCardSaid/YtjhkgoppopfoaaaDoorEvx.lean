/-
  The document's in and digits for events.
-/
import Derived.Test.YtjhkgoppopfoaaaDoorEvl
namespace Go.Proofs.YtjhkgoppopfoaaaDoor
open Go.RowKit Go.Lib
set_option linter.unusedVariables false
set_option linter.unusedSimpArgs false

theorem ein (n lo hi : Int) (b : Bool) (w : World) (hb : (decide (lo ≤ n) && decide (n ≤ hi)) = b) : Calls Tryd.prog 62 #[.int .i64 n, .int .i64 lo, .int .i64 hi] w fun e w' => e = .returned (.bool b) ∧ w = w' := by
  subst hb
  by_cases h : lo ≤ n
  · go_enter Tryd.func62, Tryd.ntmps62
    go_wp2_with fail
    go_ret
    simp [h]
  · go_enter Tryd.func62, Tryd.ntmps62
    go_wp2_with fail
    go_ret
    simp; omega
theorem edigs_small (n : Nat) (h : n < 10) (w : World) : Calls Tryd.prog 61 #[.int .i64 (n : Int)] w fun e w' => e = .returned (.string ⟨(decDigits n).toArray⟩) ∧ w = w' := by
  have e1 : decDigits n = [UInt8.ofNat (48 + n)] := decDigits_one h
  obtain rfl | rfl | rfl | rfl | rfl | rfl | rfl | rfl | rfl | rfl : n = 0 ∨ n = 1 ∨ n = 2 ∨ n = 3 ∨ n = 4 ∨ n = 5 ∨ n = 6 ∨ n = 7 ∨ n = 8 ∨ n = 9 := by omega
  all_goals
    rw [e1]
    clear e1
    go_enter Tryd.func61, Tryd.ntmps61
    go_wp2_with fail
    go_ret
    exact ⟨rfl, rfl⟩
theorem edigits_le : ∀ n : Nat, (decDigits n).length ≤ n + 1 := by
  intro n
  induction n using Nat.strongRecOn with
  | _ n ih =>
    by_cases h : n < 10
    · rw [decDigits_one h]; simp
    · rw [show decDigits n = decDigits (n / 10) ++ [UInt8.ofNat (48 + n % 10)] from by rw [decDigits, dif_neg h]]
      have := ih (n / 10) (by omega)
      simp only [List.length_append, List.length_cons, List.length_nil]
      omega
theorem edigs_any : ∀ (m n : Nat), n ≤ m → n ≤ 9223372036854775807 → ∀ w, Calls Tryd.prog 61 #[.int .i64 (n : Int)] w fun e w' => e = .returned (.string ⟨(decDigits n).toArray⟩) ∧ w = w'
  | 0, n, hm, hn, w => edigs_small n (by omega) w
  | m + 1, n, hm, hn, w => by
    by_cases h : n < 10
    · exact edigs_small n h w
    · have q1 : ((n / 10 : Nat) : Int) = (n : Int) / 10 := by omega
      have q2 : ((n % 10 : Nat) : Int) = (n : Int) % 10 := by omega
      have H1 := hide (edigs_any m (n / 10) (by omega) (by omega))
      have H2 := hide (edigs_small (n % 10) (by omega))
      rw [q1] at H1
      rw [q2] at H2
      have hd : (⟨(decDigits (n / 10)).toArray⟩ : ByteArray) ++ ⟨(decDigits (n % 10)).toArray⟩ = ⟨(decDigits n).toArray⟩ := by
        rw [show decDigits n = decDigits (n / 10) ++ [UInt8.ofNat (48 + n % 10)] from by rw [decDigits, dif_neg h], decDigits_one (show n % 10 < 10 by omega)]
        apply ByteArray.ext
        simp
      have HD := hide hd
      have hl : ¬ 9223372036854775807 < (decDigits (n / 10)).length + (decDigits (n % 10)).length := by
        have h1 := edigits_le (n / 10)
        have h2 := edigits_le (n % 10)
        omega
      clear hd q1 q2
      go_enter Tryd.func61, Tryd.ntmps61
      go_wp2_with fail
      refine (H1.out w).mono ?_; rintro e w' ⟨rfl, rfl⟩
      go_wp2_with fail
      refine (H2.out w).mono ?_; rintro e w' ⟨rfl, rfl⟩
      go_wp2_with fail
      go_ret
      exact ⟨by rw [HD.out]; rfl, rfl⟩
end Go.Proofs.YtjhkgoppopfoaaaDoor
