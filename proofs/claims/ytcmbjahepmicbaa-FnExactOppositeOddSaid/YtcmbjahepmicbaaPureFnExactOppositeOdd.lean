/-
  The law FnExactOppositeOdd, stated over numbers and lists alone, holds for all arguments, without conditions.
-/
import Derived.Test.YtcmbjahepmicbaaPFnExactOppositeOddx1
import Derived.Test.YtcmbjahepmicbaaNum
namespace Go.Proofs.Ytcmbjahepmicbaa.Pure
open Go.RowKit Go.Proofs.Ytcmbjahepmicbaa.PFnExactOppositeOdd Go.Proofs.YtcmbjahepmicbaaW.PrintWords Go.Proofs.YtcmbjahepmicbaaW.PrintLast Go.Proofs.Ytcmbjahepmicbaa.Num
theorem l1In_eq (a b c : Int) : spec_l1In.f a b c = some (decide (b ≤ a ∧ a ≤ c)) := by
  unfold spec_l1In.f
  by_cases h : a ≥ b
  · rw [if_pos h]; congr 1; simp; omega
  · rw [if_neg h]; congr 1; simp; omega
theorem within_eq (a b c : Int) : impl_within.f a b c = some (decide (b ≤ a ∧ a ≤ c)) := by
  unfold impl_within.f
  by_cases h : b ≤ a
  · rw [if_pos h]; congr 1; simp; omega
  · rw [if_neg h]; congr 1; simp; omega
theorem hoMost_eq (a : Int) : spec_hoMost.f a = some (decide (1 ≤ a ∧ a ≤ 1000000)) := by
  unfold spec_hoMost.f; rw [l1In_eq]; rfl
theorem isHouse_eq (a : Int) : impl_isHouse.f a = some (decide (1 ≤ a ∧ a ≤ 1000000)) := by
  unfold impl_isHouse.f; rw [within_eq]; rfl

theorem FnExactOppositeOdd : laws_FnExactOppositeOdd.Pure := by
  intro a ha
  refine ⟨1, ?_⟩
  unfold laws_FnExactOppositeOdd.f spec_OppositeOdd.f impl_OppositeOdd.f
  simp only [hoMost_eq, isHouse_eq, Option.bind_some, decide_eq_true_eq, impl_OppositeOdd.j0]
  by_cases h : 1 ≤ a ∧ a ≤ 1000000
  · rw [if_pos h, if_pos h, if_pos h, tm2 (by omega), wi (x := a - 1) (by omega) (by omega), wi (x := a + 1) (by omega) (by omega)]
    by_cases h2 : a % 2 = 0
    · rw [if_pos h2, if_pos h2, if_pos (show 1 ≤ a - 1 ∧ a - 1 ≤ 1000000 by omega)]; simp
    · rw [if_neg h2, if_neg h2]
      by_cases h3 : a = 1000000
      · rw [if_pos h3, if_neg (show ¬ (1 ≤ a + 1 ∧ a + 1 ≤ 1000000) by omega)]; simp
      · rw [if_neg h3, if_pos (show 1 ≤ a + 1 ∧ a + 1 ≤ 1000000 by omega)]; simp
  · rw [if_neg h, if_neg h, if_neg h]
    by_cases h2 : Int.tmod a 2 = 0
    · rw [if_pos h2]; simp
    · rw [if_neg h2]; simp
end Go.Proofs.Ytcmbjahepmicbaa.Pure
