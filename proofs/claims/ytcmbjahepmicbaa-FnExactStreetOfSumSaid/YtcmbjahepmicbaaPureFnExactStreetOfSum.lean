/-
  The law FnExactStreetOfSum, stated over numbers and lists alone, holds for all arguments, without conditions.
-/
import Derived.Test.YtcmbjahepmicbaaPFnExactStreetOfSumx1
import Derived.Test.YtcmbjahepmicbaaNum
namespace Go.Proofs.Ytcmbjahepmicbaa.Pure
open Go.RowKit Go.Proofs.Ytcmbjahepmicbaa.PFnExactStreetOfSum Go.Proofs.YtcmbjahepmicbaaW.PrintWords Go.Proofs.YtcmbjahepmicbaaW.PrintLast Go.Proofs.Ytcmbjahepmicbaa.Num
set_option linter.unusedVariables false
set_option linter.unusedSimpArgs false
theorem l1In_eq (a b c : Int) : spec_l1In.f a b c = some (decide (b ≤ a ∧ a ≤ c)) := by
  unfold spec_l1In.f
  by_cases h : a ≥ b
  · rw [if_pos h]; congr 1; simp; omega
  · rw [if_neg h]; congr 1; simp; omega
theorem within_eq (a b c : Int) : impl_within.f a b c = some (decide (b ≤ a ∧ a ≤ c)) := by
  unfold impl_within.f
  by_cases h : b ≤ a
  · rw [if_pos h]; congr 1; simp; omega
  · rw [if_neg h]; congr 1; simp; omega
theorem hoAsked_eq (a : Int) : spec_hoAsked.f a = some (decide (1 ≤ a ∧ a ≤ 1000000)) := by
  unfold spec_hoAsked.f; rw [l1In_eq]; rfl
theorem isHouse_eq (a : Int) : impl_isHouse.f a = some (decide (1 ≤ a ∧ a ≤ 1000000)) := by
  unfold impl_isHouse.f; rw [within_eq]; rfl
theorem isRunSum_eq (a : Int) : impl_isRunSum.f a = some (decide (1 ≤ a ∧ a ≤ 1000000)) := by
  unfold impl_isRunSum.f; rw [within_eq]; rfl
theorem upTo_eq {a : Int} (h0 : 0 ≤ a) (h1 : a ≤ 1000001) : impl_upTo.f a = some (tri a) := by
  have hb := mul_bound h0 (show 0 ≤ a + 1 by omega) h1 (show a + 1 ≤ 1000002 by omega)
  have ht := two_tri a
  unfold impl_upTo.f
  rw [wi (x := a + 1) (by omega) (by omega), wi (x := a * (a + 1)) (by omega) (by omega), td2 hb.1, wi (by omega) (by omega)]
  rfl
theorem hoSum_eq {a b : Int} (h0 : 1 ≤ a) (h1 : a ≤ 1000001) (h2 : a ≤ b + 1) (h3 : b ≤ 2100000) : spec_hoSum.f a b = some (tri b - tri (a - 1)) := by
  have hs := span_eq a b
  unfold spec_hoSum.f
  by_cases hlt : b < a
  · rw [if_pos hlt, show a - 1 = b by omega, Int.sub_self]
  · have hb := mul_bound (show 0 ≤ a + b by omega) (show 0 ≤ b - a + 1 by omega) (show a + b ≤ 3100001 by omega) (show b - a + 1 ≤ 2100000 by omega)
    rw [if_neg hlt, wi (x := a + b) (by omega) (by omega), wi (x := b - a) (by omega) (by omega), wi (x := b - a + 1) (by omega) (by omega), wi (x := (a + b) * (b - a + 1)) (by omega) (by omega), td2 hb.1, wi (by omega) (by omega), hs]
/-- the search by halves comes to the least last house with at least the sum, or to one beyond all -/
theorem half (first sum : Int) (h1 : 1 ≤ first) (h2 : first ≤ 1000001) (s0 : 0 ≤ sum) (s1 : sum ≤ 1000000000000) (d : Nat) : ∀ (k : Nat) (lo hi : Int), first ≤ lo → lo ≤ hi → hi ≤ 1000001 → hi - lo ≤ d → d < k →
    (∀ m, first ≤ m → m < lo → tri m - tri (first - 1) < sum) → (∀ m, hi ≤ m → m ≤ 1000000 → sum ≤ tri m - tri (first - 1)) →
    ∃ r, impl_lastFor.l0 k first sum lo hi = some r ∧ first ≤ r ∧ r ≤ 1000001 ∧ (∀ m, first ≤ m → m < r → tri m - tri (first - 1) < sum) ∧ (∀ m, r ≤ m → m ≤ 1000000 → sum ≤ tri m - tri (first - 1)) := by
  induction d with
  | zero =>
    intro k lo hi a1 a2 a3 a4 hk p q
    obtain ⟨k, rfl⟩ : ∃ m, k = m + 1 := ⟨k - 1, by omega⟩
    have : hi = lo := by omega
    subst this
    exact ⟨hi, by simp only [impl_lastFor.l0]; rw [if_neg (by omega)], a1, a3, p, q⟩
  | succ d ih =>
    intro k lo hi a1 a2 a3 a4 hk p q
    obtain ⟨k, rfl⟩ : ∃ m, k = m + 1 := ⟨k - 1, by omega⟩
    by_cases c : lo < hi
    · have e : Int.tdiv (wrap64 (lo + hi)) 2 = (lo + hi) / 2 := by rw [wi (by omega) (by omega), td2 (by omega)]
      obtain ⟨mid, hm⟩ : ∃ mid, mid = (lo + hi) / 2 := ⟨_, rfl⟩
      have m1 : lo ≤ mid := by omega
      have m2 : mid < hi := by omega
      have t0 := tri_nonneg (n := first - 1) (by omega)
      have t1 := tri_le (a := first - 1) (b := mid) (by omega) (by omega)
      have t2 := tri_bound (n := mid) (by omega) (by omega)
      simp only [impl_lastFor.l0]
      rw [if_pos c, e, ← hm, wi (x := mid) (by omega) (by omega), wi (x := first - 1) (by omega) (by omega), upTo_eq (by omega) (by omega), upTo_eq (by omega) (by omega)]
      simp only [Option.bind_some]
      rw [wi (x := tri mid - tri (first - 1)) (by omega) (by omega), wi (x := mid + 1) (by omega) (by omega)]
      by_cases g : tri mid - tri (first - 1) ≥ sum
      · rw [if_pos g]
        exact ih k lo mid a1 m1 (by omega) (by omega) (by omega) p (fun m x y => by have := tri_le (a := mid) (b := m) (by omega) x; omega)
      · rw [if_neg g]
        exact ih k (mid + 1) hi (by omega) (by omega) a3 (by omega) (by omega) (fun m x y => by have := tri_le (a := m) (b := mid) (by omega) (by omega); omega) q
    · have : hi = lo := by omega
      subst this
      exact ⟨hi, by simp only [impl_lastFor.l0]; rw [if_neg (by omega)], a1, a3, p, q⟩

theorem lastFor_tells (first sum : Int) (h1 : 1 ≤ first) (h2 : first ≤ 1000000) (s0 : 0 ≤ sum) (s1 : sum ≤ 1000000000000) (k : Nat) (hk : 1000001 < k) :
    ∃ r, impl_lastFor.f k first sum = some r ∧ first ≤ r ∧ r ≤ 1000001 ∧ (∀ m, first ≤ m → m < r → tri m - tri (first - 1) < sum) ∧ (∀ m, r ≤ m → m ≤ 1000000 → sum ≤ tri m - tri (first - 1)) := by
  unfold impl_lastFor.f
  exact half first sum h1 (by omega) s0 s1 1000001 k first 1000001 (by omega) (by omega) (by omega) (by omega) hk (fun m x y => by omega) (fun m x y => by omega)

/-- the search one by one comes to the least last house with at least the sum -/
theorem ones (sum : Int) (s1 : sum ≤ 1000000) (d : Nat) : ∀ (k : Nat) (i : Int), 1 ≤ i → i ≤ 1000000 → 1000000 - i = d → d < k →
    (∀ m, 1 ≤ m → m < i → tri m < sum) →
    ∃ r, 1 ≤ r ∧ r ≤ 1000000 ∧ (∀ m, 1 ≤ m → m < r → tri m < sum) ∧ sum ≤ tri r ∧
      spec_StreetOfSum.l0 k sum i = some (if tri r > sum then (0, false) else (r, true)) := by
  have z : tri (1 - 1) = 0 := by decide
  have far : ∀ i, 1 ≤ i → i ≤ tri i := fun i hi => by
    have := tri_lt (a := 1 - 1) (b := i) (by omega) (by omega); omega
  induction d with
  | zero =>
    intro k i a1 a2 a3 hk p
    obtain ⟨k, rfl⟩ : ∃ m, k = m + 1 := ⟨k - 1, by omega⟩
    have f := far i a1
    refine ⟨i, a1, a2, p, by omega, ?_⟩
    simp only [spec_StreetOfSum.l0]
    rw [hoSum_eq (by omega) (by omega) (by omega) (by omega)]
    simp only [Option.bind_some, z, Int.sub_zero]
    rw [if_neg (by omega)]; split <;> rfl
  | succ d ih =>
    intro k i a1 a2 a3 hk p
    obtain ⟨k, rfl⟩ : ∃ m, k = m + 1 := ⟨k - 1, by omega⟩
    by_cases c : tri i < sum
    · obtain ⟨r, x0, x1, x2, x3, x4⟩ := ih k (i + 1) (by omega) (by omega) (by omega) (by omega) (fun m x y => by
        by_cases e : m = i
        · rw [e]; exact c
        · exact p m x (by omega))
      refine ⟨r, x0, x1, x2, x3, ?_⟩
      simp only [spec_StreetOfSum.l0]
      rw [hoSum_eq (by omega) (by omega) (by omega) (by omega)]
      simp only [Option.bind_some, z, Int.sub_zero]
      rw [if_pos c, wi (by omega) (by omega)]; exact x4
    · refine ⟨i, a1, a2, p, by omega, ?_⟩
      simp only [spec_StreetOfSum.l0]
      rw [hoSum_eq (by omega) (by omega) (by omega) (by omega)]
      simp only [Option.bind_some, z, Int.sub_zero]
      rw [if_neg c]; split <;> rfl

theorem FnExactStreetOfSum : laws_FnExactStreetOfSum.Pure := by
  intro b _
  obtain ⟨k, hk⟩ : ∃ k : Nat, k = 2000002 := ⟨_, rfl⟩
  refine ⟨k + 1, ?_⟩
  unfold laws_FnExactStreetOfSum.f spec_StreetOfSum.f impl_StreetOfSum.f impl_LastForSum.f
  simp only [isHouse_eq, hoAsked_eq, isRunSum_eq, Option.bind_some, decide_eq_true_eq, impl_LastForSum.j0]
  rw [if_pos (show (1 : Int) ≤ 1 ∧ (1 : Int) ≤ 1000000 by omega)]
  by_cases h2 : 1 ≤ b ∧ b ≤ 1000000
  · have e : decide (1 ≤ b ∧ b ≤ 1000000) = true := decide_eq_true h2
    have z : tri (1 - 1) = 0 := by decide
    rw [if_pos h2]
    simp only [e, Bool.not_true, Bool.false_eq_true, if_false]
    obtain ⟨r, x0, x1, x2, x3, x4⟩ := ones b h2.2 999999 (k + 1) 1 (by omega) (by omega) (by omega) (by omega) (fun m x y => by omega)
    obtain ⟨q, y1, y2, y3, y4, y5⟩ := lastFor_tells 1 b (by omega) (by omega) (by omega) (by omega) k (by omega)
    rw [x4, y1]
    simp only [Option.bind_some]
    have : q = r := by
      by_cases g : q < r
      · have p1 := y5 q (by omega) (by omega)
        have p2 := x2 q y2 (by omega)
        omega
      · by_cases g2 : r < q
        · have := y4 r x0 g2; omega
        · omega
    rw [this, if_neg (show ¬ r > 1000000 by omega)]
    simp only [if_true, Option.bind_some]
    rw [upTo_eq (by omega) (by omega)]
    simp only [Option.bind_some]
    by_cases c : tri r > b
    · rw [if_pos c, if_neg (show ¬ tri r = b by omega)]; simp
    · rw [if_neg c, if_pos (show tri r = b by omega)]; simp
  · have e : decide (1 ≤ b ∧ b ≤ 1000000) = false := decide_eq_false h2
    rw [if_neg h2]; simp [e]
end Go.Proofs.Ytcmbjahepmicbaa.Pure
