/-
  The law FnExactDigitsWritten, stated over numbers and lists alone, holds for all arguments, without conditions.
-/
import Derived.Test.YtacebfmljjcnpaaPFnExactDigitsWrittenx1
import Derived.Test.YtacebfmljjcnpaaNum
namespace Go.Proofs.Ytacebfmljjcnpaa.Pure
open Go.RowKit Go.Proofs.Ytacebfmljjcnpaa.PFnExactDigitsWritten Go.Proofs.YtacebfmljjcnpaaW.PrintWords Go.Proofs.YtacebfmljjcnpaaW.PrintLast Go.Proofs.Ytacebfmljjcnpaa.Num
set_option linter.unusedVariables false
set_option linter.unusedSimpArgs false
open Go.Proofs.YtacebfmljjcnpaaW.PrintMore
theorem l1In_eq (a b c : Int) : spec_l1In.f a b c = some (decide (b ≤ a ∧ a ≤ c)) := by
  unfold spec_l1In.f
  by_cases h : a ≥ b
  · rw [if_pos h]; congr 1; simp; omega
  · rw [if_neg h]; congr 1; simp; omega
theorem within_eq (a b c : Int) : impl_within.f a b c = some (decide (b ≤ a ∧ a ≤ c)) := by
  unfold impl_within.f
  by_cases h : b ≤ a
  · rw [if_pos h]; congr 1; simp; omega
  · rw [if_neg h]; congr 1; simp; omega
theorem diGood_eq (a : Int) : spec_diGood.f a = some (decide (0 ≤ a ∧ a ≤ 1000000000000)) := by
  unfold spec_diGood.f; rw [l1In_eq]; rfl
theorem isWritten_eq (a : Int) : impl_isWritten.f a = some (decide (0 ≤ a ∧ a ≤ 1000000000000)) := by
  unfold impl_isWritten.f; rw [within_eq]; rfl
/-- how many digits are written for the numbers from low to n, low having dig digits -/
def wr : Nat → Int → Int → Int → Int
  | 0, _, _, _ => 0
  | k + 1, low, dig, n => if low ≤ n then dig * ((if n ≤ 10 * low - 1 then n else 10 * low - 1) - low + 1) + wr k (10 * low) (dig + 1) n else 0

theorem wr_out {k : Nat} {low dig n : Int} (h : n < low) : wr k low dig n = 0 := by
  cases k with
  | zero => rfl
  | succ k => rw [wr, if_neg (by omega)]

theorem wr_succ (k : Nat) : ∀ (i : Nat) (low dig n : Int), i < k → 1 ≤ low → low * 10 ^ i ≤ n + 1 → n + 1 < low * 10 ^ (i + 1) →
    wr k low dig (n + 1) = wr k low dig n + (dig + i) := by
  induction k with
  | zero => intro i _ _ _ h; omega
  | succ k ih =>
    intro i low dig n hi hl h1 h2
    cases i with
    | zero =>
      simp only [Int.pow_zero, Int.mul_one] at h1
      have h2' : n + 1 < low * 10 := by simpa using h2
      rw [wr, if_pos (by omega), if_pos (by omega), wr_out (low := 10 * low) (by omega)]
      by_cases c : low ≤ n
      · rw [wr, if_pos c, if_pos (by omega), wr_out (by omega)]
        have : dig * (n + 1 - low + 1) = dig * (n - low + 1) + dig := by grind
        omega
      · rw [wr_out (by omega)]
        have : n + 1 = low := by omega
        rw [this]; simp
    | succ i =>
      have e : low * 10 ^ (i + 1) = 10 * low * 10 ^ i := by rw [Int.pow_succ]; grind
      have e2 : low * 10 ^ (i + 1 + 1) = 10 * low * 10 ^ (i + 1) := by rw [Int.pow_succ]; grind
      have hp : 10 * low ≤ 10 * low * 10 ^ i := by
        have : (1 : Int) ≤ 10 ^ i := by
          have := Int.pow_pos (n := 10) (m := i) (by omega)
          omega
        have := Int.mul_le_mul_of_nonneg_left this (show 0 ≤ 10 * low by omega)
        omega
      have := ih i (10 * low) (dig + 1) n (by omega) (by omega) (by omega) (by omega)
      rw [wr, if_pos (by omega), if_neg (by omega), wr, if_pos (by omega), this]
      by_cases c : n ≤ 10 * low - 1
      · rw [if_pos c]
        have : n = 10 * low - 1 := by omega
        rw [this]; push_cast; omega
      · rw [if_neg c]; push_cast; omega

theorem wr_bound (k : Nat) : ∀ (low dig n : Int), 1 ≤ low → 0 ≤ dig → dig + k ≤ 20 → n ≤ 1000000000000 → low ≤ n + 1 → 0 ≤ wr k low dig n ∧ wr k low dig n ≤ 20 * (n - low + 1) := by
  induction k with
  | zero => intro low dig n _ _ _ _ _; rw [wr]; omega
  | succ k ih =>
    intro low dig n h1 h2 h3 h4 h5
    by_cases c : low ≤ n
    · rw [wr, if_pos c]
      by_cases g : n ≤ 10 * low - 1
      · rw [if_pos g, wr_out (by omega)]
        have b := mul_bound h2 (show 0 ≤ n - low + 1 by omega) (show dig ≤ 20 by omega) (Int.le_refl (n - low + 1))
        omega
      · rw [if_neg g]
        have b := mul_bound h2 (show 0 ≤ 10 * low - 1 - low + 1 by omega) (show dig ≤ 20 by omega) (Int.le_refl (10 * low - 1 - low + 1))
        have := ih (10 * low) (dig + 1) n (by omega) (by omega) (by push_cast at h3 ⊢; omega) h4 (by omega)
        omega
    · rw [wr_out (by omega)]; omega
/-- the program's count of the digits that are written -/
theorem implWritten_go (n : Int) (hn : n ≤ 1000000000000) (d : Nat) : ∀ (k : Nat) (all low dig : Int), 1 ≤ low → low ≤ 10000000000000 → 0 ≤ dig → dig + d ≤ 20 → 0 ≤ all → all ≤ 20 * (low - 1) → d < k → n < low * 10 ^ d →
    impl_written.l0 k n all dig low = some (all + wr d low dig n) := by
  induction d with
  | zero =>
    intro k all low dig h1 h2 h3 h4 h5 h6 hk hp
    obtain ⟨k, rfl⟩ : ∃ m, k = m + 1 := ⟨k - 1, by omega⟩
    simp only [impl_written.l0]
    rw [if_neg (by simpa using hp), wr, Int.add_zero]
  | succ d ih =>
    intro k all low dig h1 h2 h3 h4 h5 h6 hk hp
    obtain ⟨k, rfl⟩ : ∃ m, k = m + 1 := ⟨k - 1, by omega⟩
    simp only [impl_written.l0]
    by_cases c : low ≤ n
    · have e : mn n (10 * low - 1) = (if n ≤ 10 * low - 1 then n else 10 * low - 1) := by
        unfold mn; split <;> split <;> omega
      obtain ⟨t, ht⟩ : ∃ t, t = (if n ≤ 10 * low - 1 then n else 10 * low - 1) := ⟨_, rfl⟩
      have t1 : low ≤ t := by rw [ht]; split <;> omega
      have t2 : t ≤ 10 * low - 1 := by rw [ht]; split <;> omega
      have t3 : t ≤ n := by rw [ht]; split <;> omega
      have b := mul_bound h3 (show 0 ≤ t - low + 1 by omega) (show dig ≤ 20 by omega) (Int.le_refl (t - low + 1))
      rw [if_pos c, wi (x := 10 * low) (by omega) (by omega), wi (x := 10 * low - 1) (by omega) (by omega), e, ← ht, wi (x := t - low) (by omega) (by omega), wi (x := t - low + 1) (by omega) (by omega),
        wi (x := dig * (t - low + 1)) (by omega) (by omega), wi (x := all + dig * (t - low + 1)) (by omega) (by omega), wi (x := dig + 1) (by omega) (by omega), wi (x := low * 10) (by omega) (by omega), wr, if_pos c, ← ht,
        ih k _ (low * 10) (dig + 1) (by omega) (by omega) (by omega) (by push_cast at h4 ⊢; omega) (by omega) (by omega) (by omega) (by rw [Int.pow_succ] at hp; grind), show low * 10 = 10 * low by omega]
      congr 1; omega
    · rw [if_neg c, wr, if_neg c, Int.add_zero]

/-- the reference's -/
theorem specWritten_go (n : Int) (hn : n ≤ 1000000000000) (d : Nat) : ∀ (k : Nat) (all low dig : Int), 1 ≤ low → low ≤ 10000000000000 → 0 ≤ dig → dig + d ≤ 20 → 0 ≤ all → all ≤ 20 * (low - 1) → d < k → n < low * 10 ^ d →
    spec_diWritten.l0 k n all low dig = some (all + wr d low dig n) := by
  induction d with
  | zero =>
    intro k all low dig h1 h2 h3 h4 h5 h6 hk hp
    obtain ⟨k, rfl⟩ : ∃ m, k = m + 1 := ⟨k - 1, by omega⟩
    simp only [spec_diWritten.l0]
    rw [if_neg (by simpa using hp), wr, Int.add_zero]
  | succ d ih =>
    intro k all low dig h1 h2 h3 h4 h5 h6 hk hp
    obtain ⟨k, rfl⟩ : ∃ m, k = m + 1 := ⟨k - 1, by omega⟩
    simp only [spec_diWritten.l0]
    by_cases c : low ≤ n
    · have e : spec_l1Least.f n (low * 10 - 1) = some (if n ≤ 10 * low - 1 then n else 10 * low - 1) := by
        unfold spec_l1Least.f; split <;> split <;> congr 1 <;> omega
      obtain ⟨t, ht⟩ : ∃ t, t = (if n ≤ 10 * low - 1 then n else 10 * low - 1) := ⟨_, rfl⟩
      have t1 : low ≤ t := by rw [ht]; split <;> omega
      have t2 : t ≤ 10 * low - 1 := by rw [ht]; split <;> omega
      have t3 : t ≤ n := by rw [ht]; split <;> omega
      have b := mul_bound h3 (show 0 ≤ t - low + 1 by omega) (show dig ≤ 20 by omega) (Int.le_refl (t - low + 1))
      have bc : (t - low + 1) * dig = dig * (t - low + 1) := Int.mul_comm _ _
      rw [if_pos c, wi (x := low * 10) (by omega) (by omega), wi (x := low * 10 - 1) (by omega) (by omega), e, ← ht]
      simp only [Option.bind_some]
      rw [wi (x := t - low) (by omega) (by omega), wi (x := t - low + 1) (by omega) (by omega), bc,
        wi (x := dig * (t - low + 1)) (by omega) (by omega), wi (x := all + dig * (t - low + 1)) (by omega) (by omega), wi (x := dig + 1) (by omega) (by omega), wr, if_pos c, ← ht,
        ih k _ (low * 10) (dig + 1) (by omega) (by omega) (by omega) (by push_cast at h4 ⊢; omega) (by omega) (by omega) (by omega) (by rw [Int.pow_succ] at hp; grind), show low * 10 = 10 * low by omega]
      congr 1; omega
    · rw [if_neg c, wr, if_neg c, Int.add_zero]

theorem implWritten_tells {n : Int} (hn : n ≤ 1000000000000) {k : Nat} (hk : 13 < k) : impl_written.f k n = some (wr 13 1 1 n) := by
  unfold impl_written.f
  rw [implWritten_go n hn 13 k 0 1 1 (by omega) (by omega) (by omega) (by omega) (by omega) (by omega) hk (by omega), Int.zero_add]
theorem specWritten_tells {n : Int} (hn : n ≤ 1000000000000) {k : Nat} (hk : 13 < k) : spec_diWritten.f k n = some (wr 13 1 1 n) := by
  unfold spec_diWritten.f
  rw [specWritten_go n hn 13 k 0 1 1 (by omega) (by omega) (by omega) (by omega) (by omega) (by omega) hk (by omega), Int.zero_add]

theorem FnExactDigitsWritten : laws_FnExactDigitsWritten.Pure := by
  intro a _
  refine ⟨20, ?_⟩
  unfold laws_FnExactDigitsWritten.f spec_DigitsWritten.f impl_DigitsWritten.f
  simp only [diGood_eq, isWritten_eq, Option.bind_some, decide_eq_true_eq]
  by_cases h : 0 ≤ a ∧ a ≤ 1000000000000
  · rw [if_pos h, if_pos h, implWritten_tells h.2 (by omega), specWritten_tells h.2 (by omega)]; simp
  · rw [if_neg h, if_neg h]; simp
end Go.Proofs.Ytacebfmljjcnpaa.Pure
