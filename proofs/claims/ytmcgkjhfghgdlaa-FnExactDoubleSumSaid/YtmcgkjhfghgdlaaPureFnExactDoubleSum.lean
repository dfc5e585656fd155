/-
  The law FnExactDoubleSum, stated over numbers and lists alone, holds for all arguments, without conditions.
-/
import Derived.Test.YtmcgkjhfghgdlaaPFnExactDoubleSumx1
import Derived.Test.YtmcgkjhfghgdlaaNum
namespace Go.Proofs.Ytmcgkjhfghgdlaa.Pure
open Go.RowKit Go.Proofs.Ytmcgkjhfghgdlaa.PFnExactDoubleSum Go.Proofs.YtmcgkjhfghgdlaaW.PrintWords Go.Proofs.YtmcgkjhfghgdlaaW.PrintLast Go.Proofs.Ytmcgkjhfghgdlaa.Num
set_option linter.unusedVariables false
set_option linter.unusedSimpArgs false
theorem l1In_eq (a b c : Int) : spec_l1In.f a b c = some (decide (b ≤ a ∧ a ≤ c)) := by
  unfold spec_l1In.f
  by_cases h : a ≥ b
  · rw [if_pos h]; congr 1; simp; omega
  · rw [if_neg h]; congr 1; simp; omega
theorem within_eq (a b c : Int) : impl_within.f a b c = some (decide (b ≤ a ∧ a ≤ c)) := by
  unfold impl_within.f
  by_cases h : b ≤ a
  · rw [if_pos h]; congr 1; simp; omega
  · rw [if_neg h]; congr 1; simp; omega
theorem isHouse_eq (a : Int) : impl_isHouse.f a = some (decide (1 ≤ a ∧ a ≤ 1000000)) := by
  unfold impl_isHouse.f; rw [within_eq]; rfl
theorem hoStreet_eq (a b : Int) : spec_hoStreet.f a b = some (decide (1 ≤ a ∧ a ≤ b ∧ b ≤ 1000000)) := by
  unfold spec_hoStreet.f
  simp only [l1In_eq, Option.bind_some, decide_eq_true_eq]
  by_cases h : 1 ≤ b ∧ b ≤ 1000000
  · rw [if_pos h]; simp only [Option.some.injEq, decide_eq_decide]; omega
  · rw [if_neg h, decide_eq_false (by omega)]
theorem isStreet_eq (a b : Int) : impl_isStreet.f a b = some (decide (1 ≤ a ∧ a ≤ b ∧ b ≤ 1000000)) := by
  unfold impl_isStreet.f
  simp only [isHouse_eq, within_eq, Option.bind_some, decide_eq_true_eq]
  by_cases h : 1 ≤ a ∧ a ≤ b
  · rw [if_pos h]; simp only [Option.some.injEq, decide_eq_decide]; omega
  · rw [if_neg h, decide_eq_false (by omega)]
theorem upTo_eq {a : Int} (h0 : 0 ≤ a) (h1 : a ≤ 1000001) : impl_upTo.f a = some (tri a) := by
  have hb := mul_bound h0 (show 0 ≤ a + 1 by omega) h1 (show a + 1 ≤ 1000002 by omega)
  have ht := two_tri a
  unfold impl_upTo.f
  rw [wi (x := a + 1) (by omega) (by omega), wi (x := a * (a + 1)) (by omega) (by omega), td2 hb.1, wi (by omega) (by omega)]
  rfl
theorem hoSum_eq {a b : Int} (h0 : 1 ≤ a) (h1 : a ≤ 1000001) (h2 : a ≤ b + 1) (h3 : b ≤ 2100000) : spec_hoSum.f a b = some (tri b - tri (a - 1)) := by
  have hs := span_eq a b
  unfold spec_hoSum.f
  by_cases hlt : b < a
  · rw [if_pos hlt, show a - 1 = b by omega, Int.sub_self]
  · have hb := mul_bound (show 0 ≤ a + b by omega) (show 0 ≤ b - a + 1 by omega) (show a + b ≤ 3100001 by omega) (show b - a + 1 ≤ 2100000 by omega)
    rw [if_neg hlt, wi (x := a + b) (by omega) (by omega), wi (x := b - a) (by omega) (by omega), wi (x := b - a + 1) (by omega) (by omega), wi (x := (a + b) * (b - a + 1)) (by omega) (by omega), td2 hb.1, wi (by omega) (by omega), hs]
/-- the search by halves comes to the least last house with at least the sum, or to one beyond all -/
theorem half (first sum : Int) (h1 : 1 ≤ first) (h2 : first ≤ 1000001) (s0 : 0 ≤ sum) (s1 : sum ≤ 1000000000000) (d : Nat) : ∀ (k : Nat) (lo hi : Int), first ≤ lo → lo ≤ hi → hi ≤ 1000001 → hi - lo ≤ d → d < k →
    (∀ m, first ≤ m → m < lo → tri m - tri (first - 1) < sum) → (∀ m, hi ≤ m → m ≤ 1000000 → sum ≤ tri m - tri (first - 1)) →
    ∃ r, impl_lastFor.l0 k first sum lo hi = some r ∧ first ≤ r ∧ r ≤ 1000001 ∧ (∀ m, first ≤ m → m < r → tri m - tri (first - 1) < sum) ∧ (∀ m, r ≤ m → m ≤ 1000000 → sum ≤ tri m - tri (first - 1)) := by
  induction d with
  | zero =>
    intro k lo hi a1 a2 a3 a4 hk p q
    obtain ⟨k, rfl⟩ : ∃ m, k = m + 1 := ⟨k - 1, by omega⟩
    have : hi = lo := by omega
    subst this
    exact ⟨hi, by simp only [impl_lastFor.l0]; rw [if_neg (by omega)], a1, a3, p, q⟩
  | succ d ih =>
    intro k lo hi a1 a2 a3 a4 hk p q
    obtain ⟨k, rfl⟩ : ∃ m, k = m + 1 := ⟨k - 1, by omega⟩
    by_cases c : lo < hi
    · have e : Int.tdiv (wrap64 (lo + hi)) 2 = (lo + hi) / 2 := by rw [wi (by omega) (by omega), td2 (by omega)]
      obtain ⟨mid, hm⟩ : ∃ mid, mid = (lo + hi) / 2 := ⟨_, rfl⟩
      have m1 : lo ≤ mid := by omega
      have m2 : mid < hi := by omega
      have t0 := tri_nonneg (n := first - 1) (by omega)
      have t1 := tri_le (a := first - 1) (b := mid) (by omega) (by omega)
      have t2 := tri_bound (n := mid) (by omega) (by omega)
      simp only [impl_lastFor.l0]
      rw [if_pos c, e, ← hm, wi (x := mid) (by omega) (by omega), wi (x := first - 1) (by omega) (by omega), upTo_eq (by omega) (by omega), upTo_eq (by omega) (by omega)]
      simp only [Option.bind_some]
      rw [wi (x := tri mid - tri (first - 1)) (by omega) (by omega), wi (x := mid + 1) (by omega) (by omega)]
      by_cases g : tri mid - tri (first - 1) ≥ sum
      · rw [if_pos g]
        exact ih k lo mid a1 m1 (by omega) (by omega) (by omega) p (fun m x y => by have := tri_le (a := mid) (b := m) (by omega) x; omega)
      · rw [if_neg g]
        exact ih k (mid + 1) hi (by omega) (by omega) a3 (by omega) (by omega) (fun m x y => by have := tri_le (a := m) (b := mid) (by omega) (by omega); omega) q
    · have : hi = lo := by omega
      subst this
      exact ⟨hi, by simp only [impl_lastFor.l0]; rw [if_neg (by omega)], a1, a3, p, q⟩

theorem lastFor_tells (first sum : Int) (h1 : 1 ≤ first) (h2 : first ≤ 1000000) (s0 : 0 ≤ sum) (s1 : sum ≤ 1000000000000) (k : Nat) (hk : 1000001 < k) :
    ∃ r, impl_lastFor.f k first sum = some r ∧ first ≤ r ∧ r ≤ 1000001 ∧ (∀ m, first ≤ m → m < r → tri m - tri (first - 1) < sum) ∧ (∀ m, r ≤ m → m ≤ 1000000 → sum ≤ tri m - tri (first - 1)) := by
  unfold impl_lastFor.f
  exact half first sum h1 (by omega) s0 s1 1000001 k first 1000001 (by omega) (by omega) (by omega) (by omega) hk (fun m x y => by omega) (fun m x y => by omega)
/-- the search by halves comes to the greatest number whose square is at most n -/
theorem hoRoot_half (n : Int) (d : Nat) : ∀ (k : Nat) (lo hi : Int), 0 ≤ lo → lo ≤ hi → hi ≤ 3000000 → hi - lo ≤ d → d < k → lo * lo ≤ n → n < (hi + 1) * (hi + 1) →
    ∃ r, spec_hoRoot.l0 k n lo hi = some r ∧ 0 ≤ r ∧ r ≤ 3000000 ∧ r * r ≤ n ∧ n < (r + 1) * (r + 1) := by
  induction d with
  | zero =>
    intro k lo hi a1 a2 a3 a4 hk p q
    obtain ⟨k, rfl⟩ : ∃ m, k = m + 1 := ⟨k - 1, by omega⟩
    have : hi = lo := by omega
    subst this
    exact ⟨hi, by simp only [spec_hoRoot.l0]; rw [if_neg (by omega)], a1, a3, p, q⟩
  | succ d ih =>
    intro k lo hi a1 a2 a3 a4 hk p q
    obtain ⟨k, rfl⟩ : ∃ m, k = m + 1 := ⟨k - 1, by omega⟩
    by_cases c : lo < hi
    · have e : Int.tdiv (wrap64 (wrap64 (lo + hi) + 1)) 2 = (lo + hi + 1) / 2 := by rw [wi (x := lo + hi) (by omega) (by omega), wi (by omega) (by omega), td2 (by omega)]
      obtain ⟨mid, hm⟩ : ∃ mid, mid = (lo + hi + 1) / 2 := ⟨_, rfl⟩
      have m1 : lo < mid := by omega
      have m2 : mid ≤ hi := by omega
      have b := mul_bound (show 0 ≤ mid by omega) (show 0 ≤ mid by omega) (show mid ≤ 3000000 by omega) (show mid ≤ 3000000 by omega)
      simp only [spec_hoRoot.l0]
      rw [if_pos c, e, ← hm, wi (x := mid) (by omega) (by omega), wi (x := mid * mid) (by omega) (by omega), wi (x := mid - 1) (by omega) (by omega)]
      by_cases g : mid * mid ≤ n
      · rw [if_pos g]
        exact ih k mid hi (by omega) m2 a3 (by omega) (by omega) g q
      · rw [if_neg g]
        exact ih k lo (mid - 1) a1 (by omega) (by omega) (by omega) (by omega) p (by rw [show mid - 1 + 1 = mid by omega]; omega)
    · have : hi = lo := by omega
      subst this
      exact ⟨hi, by simp only [spec_hoRoot.l0]; rw [if_neg (by omega)], a1, a3, p, q⟩

theorem hoRoot_tells (n : Int) (h0 : 0 ≤ n) (h1 : n < (3000000 + 1) * (3000000 + 1)) (k : Nat) (hk : 3000000 < k) :
    ∃ r, spec_hoRoot.f k n = some r ∧ 0 ≤ r ∧ r ≤ 3000000 ∧ r * r ≤ n ∧ n < (r + 1) * (r + 1) := by
  unfold spec_hoRoot.f
  exact hoRoot_half n 3000000 k 0 3000000 (by omega) (by omega) (by omega) (by omega) hk (by omega) h1

theorem FnExactDoubleSum : laws_FnExactDoubleSum.Pure := by
  intro a b _ _
  obtain ⟨k, hk⟩ : ∃ k : Nat, k = 3000002 := ⟨_, rfl⟩
  refine ⟨k, ?_⟩
  unfold laws_FnExactDoubleSum.f spec_DoubleSum.f impl_DoubleSum.f
  simp only [hoStreet_eq, isStreet_eq, Option.bind_some, decide_eq_true_eq]
  by_cases h : 1 ≤ a ∧ a ≤ b ∧ b ≤ 1000000
  · rw [if_pos h, if_pos h, wi (x := a - 1) (by omega) (by omega), hoSum_eq (by omega) (by omega) (by omega) (by omega), hoSum_eq (by omega) (by omega) (by omega) (by omega), upTo_eq (by omega) (by omega), upTo_eq (a := a - 1) (by omega) (by omega)]
    have z : tri (1 - 1) = 0 := by decide
    have t0 := tri_nonneg (n := a - 1) (by omega)
    have t1 := tri_lt (a := a - 1) (b := b) (by omega) (by omega)
    have t2 := tri_bound (n := b) (by omega) (by omega)
    have t3 := tri_bound (n := a - 1) (by omega) (by omega)
    simp only [Option.bind_some, z, Int.sub_zero]
    obtain ⟨F, hF⟩ : ∃ F, F = tri (a - 1) := ⟨_, rfl⟩
    obtain ⟨all, hall⟩ : ∃ all, all = tri b - F := ⟨_, rfl⟩
    rw [← hF] at t0 t1 t3
    rw [← hF, ← hall, wi (x := 2 * F) (by omega) (by omega), wi (x := all + 2 * F) (by omega) (by omega), wi (x := all) (by omega) (by omega), wi (x := all + 1) (by omega) (by omega), td2 (by omega), wi (x := (all + 1) / 2) (by omega) (by omega), tm2 (by omega)]
    obtain ⟨r, e1, r0, r1, r2, r3⟩ := hoRoot_tells (all + 2 * F) (by omega) (by omega) k (by omega)
    obtain ⟨q, e2, q0, q1, q2, q3⟩ := lastFor_tells a ((all + 1) / 2) (by omega) (by omega) (by omega) (by omega) k (by omega)
    rw [← hF] at q2 q3
    have qb : q ≤ b := by
      by_cases c : q ≤ b
      · exact c
      · have := q2 b (by omega) (by omega); omega
    have tq := two_tri q
    have tq0 := tri_bound (n := q) (by omega) (by omega)
    have tq1 := tri_le (a := a - 1) (b := q) (by omega) (by omega)
    rw [← hF] at tq1
    have rr := mul_bound r0 (show 0 ≤ r + 1 by omega) r1 (show r + 1 ≤ 3000001 by omega)
    rw [e1, e2]
    simp only [Option.bind_some]
    rw [upTo_eq (by omega) (by omega)]
    simp only [Option.bind_some]
    rw [wi (x := r + 1) (by omega) (by omega), wi (x := r * (r + 1)) (by omega) (by omega), wi (x := tri q - F) (by omega) (by omega), wi (x := 2 * (tri q - F)) (by omega) (by omega)]
    by_cases c : 2 * (tri q - F) = all
    · have eq : r = q := by
        refine root_one r0 (by omega) r2 r3 ?_ ?_
        · have : q * (q + 1) = q * q + q := by grind
          omega
        · have : (q + 1) * (q + 1) = q * (q + 1) + (q + 1) := by grind
          omega
      rw [eq, if_pos c, if_pos (show all % 2 = 0 by omega), if_pos (show q * (q + 1) = all + 2 * F by omega), if_neg (show ¬ q < a by omega)]; simp
    · rw [if_neg c]
      by_cases c1 : all % 2 = 0
      · rw [if_pos c1]
        by_cases c2 : r * (r + 1) = all + 2 * F
        · rw [if_pos c2]
          by_cases c3 : r < a
          · rw [if_pos c3]; simp
          · exfalso
            have tr := two_tri r
            by_cases g : r < q
            · have := q2 r (by omega) g; omega
            · have p := q3 q (by omega) (by omega)
              by_cases g2 : q < r
              · have := tri_lt (a := q) (b := r) (by omega) g2; omega
              · have : r = q := by omega
                subst this; omega
        · rw [if_neg c2]; simp
      · rw [if_neg c1]; simp
  · rw [if_neg h, if_neg h]; simp
end Go.Proofs.Ytmcgkjhfghgdlaa.Pure
