/-
  The law FnExactBalancedHouse, stated over numbers and lists alone, holds for all arguments, without conditions.
-/
import Derived.Test.YtmcgkjhfghgdlaaPFnExactBalancedHousex1
import Derived.Test.YtmcgkjhfghgdlaaNum
namespace Go.Proofs.Ytmcgkjhfghgdlaa.Pure
open Go.RowKit Go.Proofs.Ytmcgkjhfghgdlaa.PFnExactBalancedHouse Go.Proofs.YtmcgkjhfghgdlaaW.PrintWords Go.Proofs.YtmcgkjhfghgdlaaW.PrintLast Go.Proofs.Ytmcgkjhfghgdlaa.Num
set_option linter.unusedVariables false
set_option linter.unusedSimpArgs false
theorem l1In_eq (a b c : Int) : spec_l1In.f a b c = some (decide (b ≤ a ∧ a ≤ c)) := by
  unfold spec_l1In.f
  by_cases h : a ≥ b
  · rw [if_pos h]; congr 1; simp; omega
  · rw [if_neg h]; congr 1; simp; omega
theorem within_eq (a b c : Int) : impl_within.f a b c = some (decide (b ≤ a ∧ a ≤ c)) := by
  unfold impl_within.f
  by_cases h : b ≤ a
  · rw [if_pos h]; congr 1; simp; omega
  · rw [if_neg h]; congr 1; simp; omega
theorem isHouse_eq (a : Int) : impl_isHouse.f a = some (decide (1 ≤ a ∧ a ≤ 1000000)) := by
  unfold impl_isHouse.f; rw [within_eq]; rfl
theorem hoStreet_eq (a b : Int) : spec_hoStreet.f a b = some (decide (1 ≤ a ∧ a ≤ b ∧ b ≤ 1000000)) := by
  unfold spec_hoStreet.f
  simp only [l1In_eq, Option.bind_some, decide_eq_true_eq]
  by_cases h : 1 ≤ b ∧ b ≤ 1000000
  · rw [if_pos h]; simp only [Option.some.injEq, decide_eq_decide]; omega
  · rw [if_neg h, decide_eq_false (by omega)]
theorem isStreet_eq (a b : Int) : impl_isStreet.f a b = some (decide (1 ≤ a ∧ a ≤ b ∧ b ≤ 1000000)) := by
  unfold impl_isStreet.f
  simp only [isHouse_eq, within_eq, Option.bind_some, decide_eq_true_eq]
  by_cases h : 1 ≤ a ∧ a ≤ b
  · rw [if_pos h]; simp only [Option.some.injEq, decide_eq_decide]; omega
  · rw [if_neg h, decide_eq_false (by omega)]
theorem upTo_eq {a : Int} (h0 : 0 ≤ a) (h1 : a ≤ 1000001) : impl_upTo.f a = some (tri a) := by
  have hb := mul_bound h0 (show 0 ≤ a + 1 by omega) h1 (show a + 1 ≤ 1000002 by omega)
  have ht := two_tri a
  unfold impl_upTo.f
  rw [wi (x := a + 1) (by omega) (by omega), wi (x := a * (a + 1)) (by omega) (by omega), td2 hb.1, wi (by omega) (by omega)]
  rfl
theorem hoSum_eq {a b : Int} (h0 : 1 ≤ a) (h1 : a ≤ 1000001) (h2 : a ≤ b + 1) (h3 : b ≤ 2100000) : spec_hoSum.f a b = some (tri b - tri (a - 1)) := by
  have hs := span_eq a b
  unfold spec_hoSum.f
  by_cases hlt : b < a
  · rw [if_pos hlt, show a - 1 = b by omega, Int.sub_self]
  · have hb := mul_bound (show 0 ≤ a + b by omega) (show 0 ≤ b - a + 1 by omega) (show a + b ≤ 3100001 by omega) (show b - a + 1 ≤ 2100000 by omega)
    rw [if_neg hlt, wi (x := a + b) (by omega) (by omega), wi (x := b - a) (by omega) (by omega), wi (x := b - a + 1) (by omega) (by omega), wi (x := (a + b) * (b - a + 1)) (by omega) (by omega), td2 hb.1, wi (by omega) (by omega), hs]
/-- the search by halves comes to the greatest number whose square is at most n -/
theorem hoRoot_half (n : Int) (d : Nat) : ∀ (k : Nat) (lo hi : Int), 0 ≤ lo → lo ≤ hi → hi ≤ 3000000 → hi - lo ≤ d → d < k → lo * lo ≤ n → n < (hi + 1) * (hi + 1) →
    ∃ r, spec_hoRoot.l0 k n lo hi = some r ∧ 0 ≤ r ∧ r ≤ 3000000 ∧ r * r ≤ n ∧ n < (r + 1) * (r + 1) := by
  induction d with
  | zero =>
    intro k lo hi a1 a2 a3 a4 hk p q
    obtain ⟨k, rfl⟩ : ∃ m, k = m + 1 := ⟨k - 1, by omega⟩
    have : hi = lo := by omega
    subst this
    exact ⟨hi, by simp only [spec_hoRoot.l0]; rw [if_neg (by omega)], a1, a3, p, q⟩
  | succ d ih =>
    intro k lo hi a1 a2 a3 a4 hk p q
    obtain ⟨k, rfl⟩ : ∃ m, k = m + 1 := ⟨k - 1, by omega⟩
    by_cases c : lo < hi
    · have e : Int.tdiv (wrap64 (wrap64 (lo + hi) + 1)) 2 = (lo + hi + 1) / 2 := by rw [wi (x := lo + hi) (by omega) (by omega), wi (by omega) (by omega), td2 (by omega)]
      obtain ⟨mid, hm⟩ : ∃ mid, mid = (lo + hi + 1) / 2 := ⟨_, rfl⟩
      have m1 : lo < mid := by omega
      have m2 : mid ≤ hi := by omega
      have b := mul_bound (show 0 ≤ mid by omega) (show 0 ≤ mid by omega) (show mid ≤ 3000000 by omega) (show mid ≤ 3000000 by omega)
      simp only [spec_hoRoot.l0]
      rw [if_pos c, e, ← hm, wi (x := mid) (by omega) (by omega), wi (x := mid * mid) (by omega) (by omega), wi (x := mid - 1) (by omega) (by omega)]
      by_cases g : mid * mid ≤ n
      · rw [if_pos g]
        exact ih k mid hi (by omega) m2 a3 (by omega) (by omega) g q
      · rw [if_neg g]
        exact ih k lo (mid - 1) a1 (by omega) (by omega) (by omega) (by omega) p (by rw [show mid - 1 + 1 = mid by omega]; omega)
    · have : hi = lo := by omega
      subst this
      exact ⟨hi, by simp only [spec_hoRoot.l0]; rw [if_neg (by omega)], a1, a3, p, q⟩

theorem hoRoot_tells (n : Int) (h0 : 0 ≤ n) (h1 : n < (3000000 + 1) * (3000000 + 1)) (k : Nat) (hk : 3000000 < k) :
    ∃ r, spec_hoRoot.f k n = some r ∧ 0 ≤ r ∧ r ≤ 3000000 ∧ r * r ≤ n ∧ n < (r + 1) * (r + 1) := by
  unfold spec_hoRoot.f
  exact hoRoot_half n 3000000 k 0 3000000 (by omega) (by omega) (by omega) (by omega) hk (by omega) h1
/-- the search by halves comes to the greatest number whose square is at most n -/
theorem implRoot_half (n : Int) (d : Nat) : ∀ (k : Nat) (lo hi : Int), 0 ≤ lo → lo ≤ hi → hi ≤ 2000000000 → hi - lo ≤ d → d < k → lo * lo ≤ n → n < (hi + 1) * (hi + 1) →
    ∃ r, impl_root.l0 k n lo hi = some r ∧ 0 ≤ r ∧ r ≤ 2000000000 ∧ r * r ≤ n ∧ n < (r + 1) * (r + 1) := by
  induction d with
  | zero =>
    intro k lo hi a1 a2 a3 a4 hk p q
    obtain ⟨k, rfl⟩ : ∃ m, k = m + 1 := ⟨k - 1, by omega⟩
    have : hi = lo := by omega
    subst this
    exact ⟨hi, by simp only [impl_root.l0]; rw [if_neg (by omega)], a1, a3, p, q⟩
  | succ d ih =>
    intro k lo hi a1 a2 a3 a4 hk p q
    obtain ⟨k, rfl⟩ : ∃ m, k = m + 1 := ⟨k - 1, by omega⟩
    by_cases c : lo < hi
    · have e : Int.tdiv (wrap64 (wrap64 (lo + hi) + 1)) 2 = (lo + hi + 1) / 2 := by rw [wi (x := lo + hi) (by omega) (by omega), wi (by omega) (by omega), td2 (by omega)]
      obtain ⟨mid, hm⟩ : ∃ mid, mid = (lo + hi + 1) / 2 := ⟨_, rfl⟩
      have m1 : lo < mid := by omega
      have m2 : mid ≤ hi := by omega
      have b := mul_bound (show 0 ≤ mid by omega) (show 0 ≤ mid by omega) (show mid ≤ 2000000000 by omega) (show mid ≤ 2000000000 by omega)
      simp only [impl_root.l0]
      rw [if_pos c, e, ← hm, wi (x := mid) (by omega) (by omega), wi (x := mid * mid) (by omega) (by omega), wi (x := mid - 1) (by omega) (by omega)]
      by_cases g : mid * mid ≤ n
      · rw [if_pos g]
        exact ih k mid hi (by omega) m2 a3 (by omega) (by omega) g q
      · rw [if_neg g]
        exact ih k lo (mid - 1) a1 (by omega) (by omega) (by omega) (by omega) p (by rw [show mid - 1 + 1 = mid by omega]; omega)
    · have : hi = lo := by omega
      subst this
      exact ⟨hi, by simp only [impl_root.l0]; rw [if_neg (by omega)], a1, a3, p, q⟩

theorem implRoot_tells (n : Int) (h0 : 0 ≤ n) (h1 : n < (2000000000 + 1) * (2000000000 + 1)) (k : Nat) (hk : 2000000000 < k) :
    ∃ r, impl_root.f k n = some r ∧ 0 ≤ r ∧ r ≤ 2000000000 ∧ r * r ≤ n ∧ n < (r + 1) * (r + 1) := by
  unfold impl_root.f
  exact implRoot_half n 2000000000 k 0 2000000000 (by omega) (by omega) (by omega) (by omega) hk (by omega) h1

theorem sq_tri (n : Int) : tri n + tri (n - 1) = n * n := by
  have a := two_tri n
  have b := two_tri (n - 1)
  have : (n - 1) * (n - 1 + 1) = n * (n + 1) - 2 * n := by grind
  have : n * (n + 1) = n * n + n := by grind
  omega

theorem FnExactBalancedHouse : laws_FnExactBalancedHouse.Pure := by
  intro a b _ _
  obtain ⟨k, hk⟩ : ∃ k : Nat, k = 2000000001 := ⟨_, rfl⟩
  refine ⟨k, ?_⟩
  unfold laws_FnExactBalancedHouse.f spec_BalancedHouse.f impl_BalancedHouse.f spec_hoBalanced.f
  simp only [hoStreet_eq, isStreet_eq, within_eq, Option.bind_some, decide_eq_true_eq]
  by_cases h : 1 ≤ a ∧ a ≤ b ∧ b ≤ 1000000
  · rw [if_pos h, if_pos h, wi (x := a - 1) (by omega) (by omega), hoSum_eq (by omega) (by omega) (by omega) (by omega), hoSum_eq (by omega) (by omega) (by omega) (by omega), upTo_eq (by omega) (by omega), upTo_eq (a := a - 1) (by omega) (by omega)]
    have z : tri (1 - 1) = 0 := by decide
    have t0 := tri_nonneg (n := a - 1) (by omega)
    have t1 := tri_le (a := a) (b := b) (by omega) (by omega)
    have t2 := tri_bound (n := b) (by omega) (by omega)
    have t3 := tri_bound (n := a - 1) (by omega) (by omega)
    have t4 := tri_le (a := a - 1) (b := b - 1) (by omega) (by omega)
    have t5 := tri_nonneg (n := a) (by omega)
    have sa := sq_tri a
    have sb := sq_tri b
    simp only [Option.bind_some, z, Int.sub_zero]
    obtain ⟨n, hn⟩ : ∃ n, n = tri b + tri (a - 1) := ⟨_, rfl⟩
    rw [← hn, wi (x := n) (by omega) (by omega)]
    obtain ⟨r, e1, r0, r1, r2, r3⟩ := hoRoot_tells n (by omega) (by omega) k (by omega)
    obtain ⟨q, e2, q0, q1, q2, q3⟩ := implRoot_tells n (by omega) (by omega) k (by omega)
    have eq := root_one q0 r0 q2 q3 r2 r3
    subst eq
    have qq := mul_bound q0 q0 r1 r1
    rw [e1, e2]
    simp only [Option.bind_some]
    rw [wi (x := q * q) (by omega) (by omega)]
    by_cases c : q * q = n
    · have c1 : a ≤ q := le_of_sq q0 (by omega)
      have c2 : q ≤ b := le_of_sq (by omega) (by omega)
      rw [if_pos c, if_pos c, if_pos (show a ≤ q ∧ q ≤ b by omega)]
      simp; omega
    · rw [if_neg c, if_neg c]; simp
  · rw [if_neg h, if_neg h]; simp
end Go.Proofs.Ytmcgkjhfghgdlaa.Pure
