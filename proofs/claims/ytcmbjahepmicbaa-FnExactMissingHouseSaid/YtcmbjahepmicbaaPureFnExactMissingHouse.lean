/-
  The law FnExactMissingHouse, stated over numbers and lists alone, holds for all arguments, without conditions.
-/
import Derived.Test.YtcmbjahepmicbaaPFnExactMissingHousex1
import Derived.Test.YtcmbjahepmicbaaNum
namespace Go.Proofs.Ytcmbjahepmicbaa.Pure
open Go.RowKit Go.Proofs.Ytcmbjahepmicbaa.PFnExactMissingHouse Go.Proofs.YtcmbjahepmicbaaW.PrintWords Go.Proofs.YtcmbjahepmicbaaW.PrintLast Go.Proofs.Ytcmbjahepmicbaa.Num
theorem l1In_eq (a b c : Int) : spec_l1In.f a b c = some (decide (b ≤ a ∧ a ≤ c)) := by
  unfold spec_l1In.f
  by_cases h : a ≥ b
  · rw [if_pos h]; congr 1; simp; omega
  · rw [if_neg h]; congr 1; simp; omega
theorem within_eq (a b c : Int) : impl_within.f a b c = some (decide (b ≤ a ∧ a ≤ c)) := by
  unfold impl_within.f
  by_cases h : b ≤ a
  · rw [if_pos h]; congr 1; simp; omega
  · rw [if_neg h]; congr 1; simp; omega
theorem hoAsked_eq (a : Int) : spec_hoAsked.f a = some (decide (1 ≤ a ∧ a ≤ 1000000)) := by
  unfold spec_hoAsked.f; rw [l1In_eq]; rfl
theorem isRunSum_eq (a : Int) : impl_isRunSum.f a = some (decide (1 ≤ a ∧ a ≤ 1000000)) := by
  unfold impl_isRunSum.f; rw [within_eq]; rfl
theorem upTo_eq {a : Int} (h0 : 0 ≤ a) (h1 : a ≤ 1000001) : impl_upTo.f a = some (tri a) := by
  have hb := mul_bound h0 (show 0 ≤ a + 1 by omega) h1 (show a + 1 ≤ 1000002 by omega)
  have ht := two_tri a
  unfold impl_upTo.f
  rw [wi (x := a + 1) (by omega) (by omega), wi (x := a * (a + 1)) (by omega) (by omega), td2 hb.1, wi (by omega) (by omega)]
  rfl
theorem hoSum_eq {a b : Int} (h0 : 1 ≤ a) (h1 : a ≤ 1000001) (h2 : a ≤ b + 1) (h3 : b ≤ 2100000) : spec_hoSum.f a b = some (tri b - tri (a - 1)) := by
  have hs := span_eq a b
  unfold spec_hoSum.f
  by_cases hlt : b < a
  · rw [if_pos hlt, show a - 1 = b by omega, Int.sub_self]
  · have hb := mul_bound (show 0 ≤ a + b by omega) (show 0 ≤ b - a + 1 by omega) (show a + b ≤ 3100001 by omega) (show b - a + 1 ≤ 2100000 by omega)
    rw [if_neg hlt, wi (x := a + b) (by omega) (by omega), wi (x := b - a) (by omega) (by omega), wi (x := b - a + 1) (by omega) (by omega), wi (x := (a + b) * (b - a + 1)) (by omega) (by omega), td2 hb.1, wi (by omega) (by omega), hs]

/-- from a last house on, both searches come to the same -/
theorem search (sum : Int) (h1 : 1 ≤ sum) (h2 : sum ≤ 1000000) (d : Nat) : ∀ (k : Nat) (i : Int), 2 ≤ i → i ≤ 2000 → 2000 - i = d → d < k → tri (i - 1) ≤ sum →
    ∃ r, spec_MissingHouse.l0 k sum i = some r ∧ impl_MissingHouse.l0 k sum i = some r := by
  have t2000 : tri 2000 = 2001000 := by decide
  induction d with
  | zero =>
    intro k i hi hj hd hk ht
    have : i = 2000 := by omega
    subst this
    have : tri (2000 - 1) = 1999000 := by decide
    omega
  | succ d ih =>
    intro k i hi hj hd hk ht
    obtain ⟨k, rfl⟩ : ∃ m, k = m + 1 := ⟨k - 1, by omega⟩
    have s := tri_succ (i - 1)
    rw [show i - 1 + 1 = i by omega] at s
    have n0 := tri_nonneg (n := i - 1) (by omega)
    have b0 := tri_bound (n := i) (by omega) (by omega)
    have z : tri 0 = 0 := by decide
    simp only [spec_MissingHouse.l0, impl_MissingHouse.l0]
    rw [wi (x := i - 1) (by omega) (by omega), wi (x := i + 1) (by omega) (by omega), upTo_eq (by omega) (by omega), hoSum_eq (by omega) (by omega) (by omega) (by omega), hoSum_eq (by omega) (by omega) (by omega) (by omega)]
    simp only [Option.bind_some, show (1 : Int) - 1 = 0 from rfl, z, Int.sub_zero, l1In_eq, decide_eq_true_eq]
    rw [if_pos ht, wi (x := tri i - sum) (by omega) (by omega)]
    by_cases c : tri i ≤ sum
    · rw [if_neg (show ¬ (1 ≤ tri i - sum ∧ tri i - sum ≤ i) by omega), if_pos c]
      exact ih k (i + 1) (by omega) (by omega) (by omega) (by omega) (by rw [show i + 1 - 1 = i by omega]; exact c)
    · rw [if_pos (show 1 ≤ tri i - sum ∧ tri i - sum ≤ i by omega), if_neg c]
      exact ⟨_, rfl, rfl⟩

theorem FnExactMissingHouse : laws_FnExactMissingHouse.Pure := by
  intro a _
  refine ⟨2000, ?_⟩
  unfold laws_FnExactMissingHouse.f spec_MissingHouse.f impl_MissingHouse.f
  simp only [hoAsked_eq, isRunSum_eq, Option.bind_some, decide_eq_true_eq]
  by_cases h : 1 ≤ a ∧ a ≤ 1000000
  · rw [if_pos h, if_pos h]
    have t1 : tri (2 - 1) = 1 := by decide
    obtain ⟨r, e1, e2⟩ := search a h.1 h.2 1998 2000 2 (by omega) (by omega) (by omega) (by omega) (by omega)
    rw [e1, e2]; simp
  · rw [if_neg h, if_neg h]; simp
end Go.Proofs.Ytcmbjahepmicbaa.Pure
