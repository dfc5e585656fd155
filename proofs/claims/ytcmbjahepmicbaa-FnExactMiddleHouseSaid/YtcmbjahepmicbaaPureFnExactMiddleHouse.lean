/-
  The law FnExactMiddleHouse, stated over numbers and lists alone, holds for all arguments, without conditions.
-/
import Derived.Test.YtcmbjahepmicbaaPFnExactMiddleHousex1
import Derived.Test.YtcmbjahepmicbaaNum
namespace Go.Proofs.Ytcmbjahepmicbaa.Pure
open Go.RowKit Go.Proofs.Ytcmbjahepmicbaa.PFnExactMiddleHouse Go.Proofs.YtcmbjahepmicbaaW.PrintWords Go.Proofs.YtcmbjahepmicbaaW.PrintLast Go.Proofs.Ytcmbjahepmicbaa.Num
theorem l1In_eq (a b c : Int) : spec_l1In.f a b c = some (decide (b ≤ a ∧ a ≤ c)) := by
  unfold spec_l1In.f
  by_cases h : a ≥ b
  · rw [if_pos h]; congr 1; simp; omega
  · rw [if_neg h]; congr 1; simp; omega
theorem within_eq (a b c : Int) : impl_within.f a b c = some (decide (b ≤ a ∧ a ≤ c)) := by
  unfold impl_within.f
  by_cases h : b ≤ a
  · rw [if_pos h]; congr 1; simp; omega
  · rw [if_neg h]; congr 1; simp; omega
theorem isHouse_eq (a : Int) : impl_isHouse.f a = some (decide (1 ≤ a ∧ a ≤ 1000000)) := by
  unfold impl_isHouse.f; rw [within_eq]; rfl
theorem hoStreet_eq (a b : Int) : spec_hoStreet.f a b = some (decide (1 ≤ a ∧ a ≤ b ∧ b ≤ 1000000)) := by
  unfold spec_hoStreet.f
  simp only [l1In_eq, Option.bind_some, decide_eq_true_eq]
  by_cases h : 1 ≤ b ∧ b ≤ 1000000
  · rw [if_pos h]; simp only [Option.some.injEq, decide_eq_decide]; omega
  · rw [if_neg h, decide_eq_false (by omega)]
theorem isStreet_eq (a b : Int) : impl_isStreet.f a b = some (decide (1 ≤ a ∧ a ≤ b ∧ b ≤ 1000000)) := by
  unfold impl_isStreet.f
  simp only [isHouse_eq, within_eq, Option.bind_some, decide_eq_true_eq]
  by_cases h : 1 ≤ a ∧ a ≤ b
  · rw [if_pos h]; simp only [Option.some.injEq, decide_eq_decide]; omega
  · rw [if_neg h, decide_eq_false (by omega)]

theorem FnExactMiddleHouse : laws_FnExactMiddleHouse.Pure := by
  intro a b _ _
  unfold laws_FnExactMiddleHouse.f spec_MiddleHouse.f impl_MiddleHouse.f
  simp only [hoStreet_eq, isStreet_eq, Option.bind_some, decide_eq_true_eq]
  by_cases h : 1 ≤ a ∧ a ≤ b ∧ b ≤ 1000000
  · rw [if_pos h, if_pos h, wi (by omega) (by omega), tm2 (by omega)]
    by_cases h2 : (a + b) % 2 = 0
    · rw [if_pos h2, if_neg (show ¬ (a + b) % 2 = 1 by omega)]; simp
    · rw [if_neg h2, if_pos (show (a + b) % 2 = 1 by omega)]; simp
  · rw [if_neg h, if_neg h]; simp
end Go.Proofs.Ytcmbjahepmicbaa.Pure
