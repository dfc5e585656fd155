/-
  The law FnExactSumRight, stated over numbers and lists alone, holds for all arguments, without conditions.
-/
import Derived.Test.YtcmbjahepmicbaaPFnExactSumRightx1
import Derived.Test.YtcmbjahepmicbaaNum
namespace Go.Proofs.Ytcmbjahepmicbaa.Pure
open Go.RowKit Go.Proofs.Ytcmbjahepmicbaa.PFnExactSumRight Go.Proofs.YtcmbjahepmicbaaW.PrintWords Go.Proofs.YtcmbjahepmicbaaW.PrintLast Go.Proofs.Ytcmbjahepmicbaa.Num
theorem l1In_eq (a b c : Int) : spec_l1In.f a b c = some (decide (b ≤ a ∧ a ≤ c)) := by
  unfold spec_l1In.f
  by_cases h : a ≥ b
  · rw [if_pos h]; congr 1; simp; omega
  · rw [if_neg h]; congr 1; simp; omega
theorem within_eq (a b c : Int) : impl_within.f a b c = some (decide (b ≤ a ∧ a ≤ c)) := by
  unfold impl_within.f
  by_cases h : b ≤ a
  · rw [if_pos h]; congr 1; simp; omega
  · rw [if_neg h]; congr 1; simp; omega
theorem isHouse_eq (a : Int) : impl_isHouse.f a = some (decide (1 ≤ a ∧ a ≤ 1000000)) := by
  unfold impl_isHouse.f; rw [within_eq]; rfl
theorem hoStreet_eq (a b : Int) : spec_hoStreet.f a b = some (decide (1 ≤ a ∧ a ≤ b ∧ b ≤ 1000000)) := by
  unfold spec_hoStreet.f
  simp only [l1In_eq, Option.bind_some, decide_eq_true_eq]
  by_cases h : 1 ≤ b ∧ b ≤ 1000000
  · rw [if_pos h]; simp only [Option.some.injEq, decide_eq_decide]; omega
  · rw [if_neg h, decide_eq_false (by omega)]
theorem isStreet_eq (a b : Int) : impl_isStreet.f a b = some (decide (1 ≤ a ∧ a ≤ b ∧ b ≤ 1000000)) := by
  unfold impl_isStreet.f
  simp only [isHouse_eq, within_eq, Option.bind_some, decide_eq_true_eq]
  by_cases h : 1 ≤ a ∧ a ≤ b
  · rw [if_pos h]; simp only [Option.some.injEq, decide_eq_decide]; omega
  · rw [if_neg h, decide_eq_false (by omega)]
theorem upTo_eq {a : Int} (h0 : 0 ≤ a) (h1 : a ≤ 1000001) : impl_upTo.f a = some (tri a) := by
  have hb := mul_bound h0 (show 0 ≤ a + 1 by omega) h1 (show a + 1 ≤ 1000002 by omega)
  have ht := two_tri a
  unfold impl_upTo.f
  rw [wi (x := a + 1) (by omega) (by omega), wi (x := a * (a + 1)) (by omega) (by omega), td2 hb.1, wi (by omega) (by omega)]
  rfl
theorem hoSum_eq {a b : Int} (h0 : 1 ≤ a) (h1 : a ≤ 1000001) (h2 : a ≤ b + 1) (h3 : b ≤ 2100000) : spec_hoSum.f a b = some (tri b - tri (a - 1)) := by
  have hs := span_eq a b
  unfold spec_hoSum.f
  by_cases hlt : b < a
  · rw [if_pos hlt, show a - 1 = b by omega, Int.sub_self]
  · have hb := mul_bound (show 0 ≤ a + b by omega) (show 0 ≤ b - a + 1 by omega) (show a + b ≤ 3100001 by omega) (show b - a + 1 ≤ 2100000 by omega)
    rw [if_neg hlt, wi (x := a + b) (by omega) (by omega), wi (x := b - a) (by omega) (by omega), wi (x := b - a + 1) (by omega) (by omega), wi (x := (a + b) * (b - a + 1)) (by omega) (by omega), td2 hb.1, wi (by omega) (by omega), hs]

theorem FnExactSumRight : laws_FnExactSumRight.Pure := by
  intro a b c _ _ _
  refine ⟨1, ?_⟩
  unfold laws_FnExactSumRight.f spec_SumRight.f impl_SumRight.f spec_hoHouse.f
  simp only [hoStreet_eq, isStreet_eq, l1In_eq, within_eq, Option.bind_some, decide_eq_true_eq, impl_SumRight.j0]
  by_cases h : 1 ≤ a ∧ a ≤ b ∧ b ≤ 1000000
  · rw [if_pos h, if_pos h]
    by_cases h2 : a ≤ c ∧ c ≤ b
    · have e : decide (a ≤ c ∧ c ≤ b) = true := decide_eq_true h2
      simp only [e, Option.bind_some, if_true, Bool.not_true, Bool.false_eq_true, if_false]
      rw [wi (x := c + 1) (by omega) (by omega), hoSum_eq (by omega) (by omega) (by omega) (by omega), upTo_eq (by omega) (by omega), upTo_eq (by omega) (by omega)]
      have t1 := tri_le (a := c) (b := b) (by omega) (by omega)
      have t2 := tri_nonneg (n := c) (by omega)
      have t3 := tri_bound (n := b) (by omega) (by omega)
      simp only [Option.bind_some, show c + 1 - 1 = c by omega]
      rw [wi (by omega) (by omega)]; simp
    · have e : decide (a ≤ c ∧ c ≤ b) = false := decide_eq_false h2
      simp [e]
  · rw [if_neg h, if_neg h]; simp
end Go.Proofs.Ytcmbjahepmicbaa.Pure
