/-
  The law FnExactNeighbourSums, stated over numbers and lists alone, holds for all arguments, without conditions.
-/
import Derived.Test.YtcmbjahepmicbaaPFnExactNeighbourSumsx1
import Derived.Test.YtcmbjahepmicbaaNum
namespace Go.Proofs.Ytcmbjahepmicbaa.Pure
open Go.RowKit Go.Proofs.Ytcmbjahepmicbaa.PFnExactNeighbourSums Go.Proofs.YtcmbjahepmicbaaW.PrintWords Go.Proofs.YtcmbjahepmicbaaW.PrintLast Go.Proofs.Ytcmbjahepmicbaa.Num
set_option linter.unusedVariables false
set_option linter.unusedSimpArgs false
theorem l1In_eq (a b c : Int) : spec_l1In.f a b c = some (decide (b ≤ a ∧ a ≤ c)) := by
  unfold spec_l1In.f
  by_cases h : a ≥ b
  · rw [if_pos h]; congr 1; simp; omega
  · rw [if_neg h]; congr 1; simp; omega
theorem within_eq (a b c : Int) : impl_within.f a b c = some (decide (b ≤ a ∧ a ≤ c)) := by
  unfold impl_within.f
  by_cases h : b ≤ a
  · rw [if_pos h]; congr 1; simp; omega
  · rw [if_neg h]; congr 1; simp; omega
theorem hoMost_eq (a : Int) : spec_hoMost.f a = some (decide (1 ≤ a ∧ a ≤ 1000000)) := by
  unfold spec_hoMost.f; rw [l1In_eq]; rfl

theorem FnExactNeighbourSums : laws_FnExactNeighbourSums.Pure := by
  intro a b _ _
  refine ⟨4, ?_⟩
  unfold laws_FnExactNeighbourSums.f spec_NeighbourSums.f impl_NeighbourSums.f
  simp only [hoMost_eq, within_eq, l1In_eq, Option.bind_some, decide_eq_true_eq, impl_NeighbourSums.j0, spec_NeighbourSums.j0]
  have w0 : wrap64 (0 + 1) = 1 := by unfold wrap64; omega
  have w1 : wrap64 (1 + 1) = 2 := by unfold wrap64; omega
  have key : ∀ m n : Int, impl_NeighbourSums.l0 3 a 0 0 [m, n] 2 0 = spec_NeighbourSums.l0 3 a 0 0 [m, n] 2 0 := by
    intro m n
    have r0 : rd [m, n] 0 = m := rfl
    have r1 : rd [m, n] 1 = n := rfl
    simp only [impl_NeighbourSums.l0, spec_NeighbourSums.l0, within_eq, l1In_eq, Option.bind_some, decide_eq_true_eq, w0, w1, r0, r1, List.length_cons, List.length_nil]
  have ends : ∀ m n : Int, ∃ r, spec_NeighbourSums.l0 3 a 0 0 [m, n] 2 0 = some r := by
    intro m n
    have r0 : rd [m, n] 0 = m := rfl
    have r1 : rd [m, n] 1 = n := rfl
    simp only [spec_NeighbourSums.l0, l1In_eq, Option.bind_some, decide_eq_true_eq, w0, w1, r0, r1, List.length_cons, List.length_nil]
    by_cases c : 1 ≤ m ∧ m ≤ a <;> by_cases d : 1 ≤ n ∧ n ≤ a <;> simp [c, d, w0, w1]
  by_cases h : 1 ≤ a ∧ a ≤ 1000000
  · rw [if_pos h]
    by_cases h1 : a = 1
    · rw [if_pos h1, if_neg (show ¬ (2 ≤ a ∧ a ≤ 1000000) by omega)]; simp
    · rw [if_neg h1, if_pos (show 2 ≤ a ∧ a ≤ 1000000 by omega)]
      by_cases h2 : 1 ≤ b ∧ b ≤ a
      · have e : decide (1 ≤ b ∧ b ≤ a) = true := decide_eq_true h2
        simp only [e, Bool.not_true, Bool.false_eq_true, if_false, Option.bind_some, List.length_cons, List.length_nil]
        have k := key (wrap64 (b - 1)) (wrap64 (b + 1))
        obtain ⟨r, hr⟩ := ends (wrap64 (b - 1)) (wrap64 (b + 1))
        have c2 : ((0 + 1 + 1 : Nat) : Int) = 2 := rfl
        rw [c2, k, hr]; simp
      · have e : decide (1 ≤ b ∧ b ≤ a) = false := decide_eq_false h2
        simp [e]
  · rw [if_neg h, if_neg (show ¬ (2 ≤ a ∧ a ≤ 1000000) by omega)]; simp
end Go.Proofs.Ytcmbjahepmicbaa.Pure
