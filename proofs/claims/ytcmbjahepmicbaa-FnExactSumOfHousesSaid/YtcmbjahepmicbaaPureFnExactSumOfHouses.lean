/-
  The law FnExactSumOfHouses, stated over numbers and lists alone, holds for all arguments, without conditions.
-/
import Derived.Test.YtcmbjahepmicbaaPFnExactSumOfHousesx1
import Derived.Test.YtcmbjahepmicbaaNum
namespace Go.Proofs.Ytcmbjahepmicbaa.Pure
open Go.RowKit Go.Proofs.Ytcmbjahepmicbaa.PFnExactSumOfHouses Go.Proofs.YtcmbjahepmicbaaW.PrintWords Go.Proofs.YtcmbjahepmicbaaW.PrintLast Go.Proofs.Ytcmbjahepmicbaa.Num
theorem l1In_eq (a b c : Int) : spec_l1In.f a b c = some (decide (b ≤ a ∧ a ≤ c)) := by
  unfold spec_l1In.f
  by_cases h : a ≥ b
  · rw [if_pos h]; congr 1; simp; omega
  · rw [if_neg h]; congr 1; simp; omega
theorem within_eq (a b c : Int) : impl_within.f a b c = some (decide (b ≤ a ∧ a ≤ c)) := by
  unfold impl_within.f
  by_cases h : b ≤ a
  · rw [if_pos h]; congr 1; simp; omega
  · rw [if_neg h]; congr 1; simp; omega
theorem hoMost_eq (a : Int) : spec_hoMost.f a = some (decide (1 ≤ a ∧ a ≤ 1000000)) := by
  unfold spec_hoMost.f; rw [l1In_eq]; rfl
theorem isHouse_eq (a : Int) : impl_isHouse.f a = some (decide (1 ≤ a ∧ a ≤ 1000000)) := by
  unfold impl_isHouse.f; rw [within_eq]; rfl
theorem hoStreet_eq (a b : Int) : spec_hoStreet.f a b = some (decide (1 ≤ a ∧ a ≤ b ∧ b ≤ 1000000)) := by
  unfold spec_hoStreet.f
  simp only [l1In_eq, Option.bind_some, decide_eq_true_eq]
  by_cases h : 1 ≤ b ∧ b ≤ 1000000
  · rw [if_pos h]; simp only [Option.some.injEq, decide_eq_decide]; omega
  · rw [if_neg h, decide_eq_false (by omega)]
theorem isStreet_eq (a b : Int) : impl_isStreet.f a b = some (decide (1 ≤ a ∧ a ≤ b ∧ b ≤ 1000000)) := by
  unfold impl_isStreet.f
  simp only [isHouse_eq, within_eq, Option.bind_some, decide_eq_true_eq]
  by_cases h : 1 ≤ a ∧ a ≤ b
  · rw [if_pos h]; simp only [Option.some.injEq, decide_eq_decide]; omega
  · rw [if_neg h, decide_eq_false (by omega)]
theorem upTo_eq {a : Int} (h0 : 0 ≤ a) (h1 : a ≤ 1000001) : impl_upTo.f a = some (tri a) := by
  have hb := mul_bound h0 (show 0 ≤ a + 1 by omega) h1 (show a + 1 ≤ 1000002 by omega)
  have ht := two_tri a
  unfold impl_upTo.f
  rw [wi (x := a + 1) (by omega) (by omega), wi (x := a * (a + 1)) (by omega) (by omega), td2 hb.1, wi (by omega) (by omega)]
  rfl

theorem FnExactSumOfHouses : laws_FnExactSumOfHouses.Pure := by
  intro a b c _ _ _
  unfold laws_FnExactSumOfHouses.f spec_SumOfHouses.f impl_SumOfHouses.f
  simp only [hoStreet_eq, isStreet_eq, hoMost_eq, isHouse_eq, Option.bind_some, decide_eq_true_eq]
  by_cases h : 1 ≤ a ∧ a ≤ b ∧ b ≤ 1000000
  · rw [if_pos h, if_pos h]
    by_cases h2 : 1 ≤ c ∧ c ≤ 1000000
    · rw [if_pos h2, if_pos h2, if_neg (show ¬ c = 0 by omega), if_neg (show ¬ c = 0 by omega)]
      have q0 : 0 ≤ (b - a) / c := Int.ediv_nonneg (by omega) (by omega)
      have q1 : (b - a) / c ≤ 1000000 := Int.le_trans (Int.ediv_le_self _ (by omega)) (by omega)
      rw [wi (x := b - a) (by omega) (by omega), td (by omega)]
      generalize (b - a) / c = q at q0 q1
      have hb := mul_bound q0 (show 0 ≤ q + 1 by omega) q1 (show q + 1 ≤ 1000001 by omega)
      rw [wi (x := q) (by omega) (by omega), wi (x := q + 1) (by omega) (by omega), wi (x := q * (q + 1)) (by omega) (by omega), td2 hb.1, wi (x := q * (q + 1) / 2) (by omega) (by omega), wi (x := q + 1 - 1) (by omega) (by omega), show q + 1 - 1 = q by omega, upTo_eq q0 (by omega)]
      simp [tri]
    · rw [if_neg h2, if_neg h2]; simp
  · rw [if_neg h, if_neg h]; simp
end Go.Proofs.Ytcmbjahepmicbaa.Pure
