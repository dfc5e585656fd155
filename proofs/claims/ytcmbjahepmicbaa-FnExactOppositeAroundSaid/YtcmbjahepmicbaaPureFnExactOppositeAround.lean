/-
  The law FnExactOppositeAround, stated over numbers and lists alone, holds for all arguments, without conditions.
-/
import Derived.Test.YtcmbjahepmicbaaPFnExactOppositeAroundx1
import Derived.Test.YtcmbjahepmicbaaNum
namespace Go.Proofs.Ytcmbjahepmicbaa.Pure
open Go.RowKit Go.Proofs.Ytcmbjahepmicbaa.PFnExactOppositeAround Go.Proofs.YtcmbjahepmicbaaW.PrintWords Go.Proofs.YtcmbjahepmicbaaW.PrintLast Go.Proofs.Ytcmbjahepmicbaa.Num
theorem l1In_eq (a b c : Int) : spec_l1In.f a b c = some (decide (b ≤ a ∧ a ≤ c)) := by
  unfold spec_l1In.f
  by_cases h : a ≥ b
  · rw [if_pos h]; congr 1; simp; omega
  · rw [if_neg h]; congr 1; simp; omega
theorem within_eq (a b c : Int) : impl_within.f a b c = some (decide (b ≤ a ∧ a ≤ c)) := by
  unfold impl_within.f
  by_cases h : b ≤ a
  · rw [if_pos h]; congr 1; simp; omega
  · rw [if_neg h]; congr 1; simp; omega
theorem hoMost_eq (a : Int) : spec_hoMost.f a = some (decide (1 ≤ a ∧ a ≤ 1000000)) := by
  unfold spec_hoMost.f; rw [l1In_eq]; rfl
theorem isHouse_eq (a : Int) : impl_isHouse.f a = some (decide (1 ≤ a ∧ a ≤ 1000000)) := by
  unfold impl_isHouse.f; rw [within_eq]; rfl

theorem FnExactOppositeAround : laws_FnExactOppositeAround.Pure := by
  intro a b _ _
  unfold laws_FnExactOppositeAround.f spec_OppositeAround.f impl_OppositeAround.f
  simp only [hoMost_eq, isHouse_eq, l1In_eq, within_eq, Option.bind_some, decide_eq_true_eq]
  by_cases h : 1 ≤ a ∧ a ≤ 1000000
  · simp only [if_pos h, tm2 (show 0 ≤ a by omega)]
    by_cases h2 : a % 2 = 0
    · rw [if_pos h2, if_neg (show ¬ a % 2 = 1 by omega)]
      by_cases h3 : 1 ≤ b ∧ b ≤ a
      · simp [h3]
      · simp [h3]
    · rw [if_neg h2, if_pos (show a % 2 = 1 by omega)]; simp
  · rw [if_neg h, if_neg h]; simp
end Go.Proofs.Ytcmbjahepmicbaa.Pure
