/-
  The law FnExactDigitCounts, stated over numbers and lists alone, holds for all arguments, without conditions.
-/
import Derived.Test.YtacebfmljjcnpaaPFnExactDigitCountsx2
import Derived.Test.YtacebfmljjcnpaaNum
namespace Go.Proofs.Ytacebfmljjcnpaa.Pure
open Go.RowKit Go.Proofs.Ytacebfmljjcnpaa.PFnExactDigitCounts Go.Proofs.YtacebfmljjcnpaaW.PrintWords Go.Proofs.YtacebfmljjcnpaaW.PrintLast Go.Proofs.Ytacebfmljjcnpaa.Num
set_option linter.unusedVariables false
set_option linter.unusedSimpArgs false
theorem l1In_eq (a b c : Int) : spec_l1In.f a b c = some (decide (b ≤ a ∧ a ≤ c)) := by
  unfold spec_l1In.f
  by_cases h : a ≥ b
  · rw [if_pos h]; congr 1; simp; omega
  · rw [if_neg h]; congr 1; simp; omega
theorem within_eq (a b c : Int) : impl_within.f a b c = some (decide (b ≤ a ∧ a ≤ c)) := by
  unfold impl_within.f
  by_cases h : b ≤ a
  · rw [if_pos h]; congr 1; simp; omega
  · rw [if_neg h]; congr 1; simp; omega
theorem diGood_eq (a : Int) : spec_diGood.f a = some (decide (0 ≤ a ∧ a ≤ 1000000000000)) := by
  unfold spec_diGood.f; rw [l1In_eq]; rfl
theorem isWritten_eq (a : Int) : impl_isWritten.f a = some (decide (0 ≤ a ∧ a ≤ 1000000000000)) := by
  unfold impl_isWritten.f; rw [within_eq]; rfl
/-- how often a digit stands at the place with the weight u in the numbers 1..n -/
def term (u n digit : Int) : Int :=
  if n < u then 0 else
  if n / u / 10 - (if digit = 0 then 1 else 0) < 0 then 0 else
  (n / u / 10 - (if digit = 0 then 1 else 0)) * u + (if n / u % 10 > digit then u else if n / u % 10 = digit then n % u + 1 else 0)

theorem term_nonneg {u n digit : Int} (hu : 1 ≤ u) : 0 ≤ term u n digit := by
  unfold term
  have hr := Int.emod_nonneg n (show u ≠ 0 by omega)
  have : 0 ≤ n / u / 10 - (if digit = 0 then 1 else 0) → 0 ≤ (n / u / 10 - (if digit = 0 then 1 else 0)) * u := fun h => Int.mul_nonneg h (by omega)
  generalize (n / u / 10 - (if digit = 0 then 1 else 0)) * u = z at *
  generalize n / u / 10 - (if digit = 0 then 1 else 0) = y at *
  (repeat' split) <;> omega

theorem term_mono {u n digit : Int} (hu : 1 ≤ u) (hn : 0 ≤ n) (hd : 0 ≤ digit) (hd9 : digit ≤ 9) : term u n digit ≤ term u (n + 1) digit := by
  -- n = u * q + r, q = 10 * a + o
  have hq := Int.mul_ediv_add_emod n u
  have hr := Int.emod_nonneg n (show u ≠ 0 by omega)
  have hr2 := Int.emod_lt_of_pos n (show 0 < u by omega)
  have hq0 : 0 ≤ n / u := Int.ediv_nonneg hn (by omega)
  by_cases hw : n % u + 1 = u
  · -- carry
    have e1 : (n + 1) / u = n / u + 1 := by
      rw [show n + 1 = u * (n / u + 1) by rw [Int.mul_add]; omega]
      exact Int.mul_ediv_cancel_left _ (by omega)
    have e2 : (n + 1) % u = 0 := by
      rw [show n + 1 = u * (n / u + 1) by rw [Int.mul_add]; omega]
      exact Int.mul_emod_right _ _
    unfold term
    rw [e1, e2]
    generalize n / u = q at *
    generalize n % u = r at *
    have hlt : n + 1 < u ↔ q + 1 < 1 := by
      constructor
      · intro h
        by_cases c : q + 1 < 1
        · exact c
        · have : u * 0 ≤ u * q := Int.mul_le_mul_of_nonneg_left (by omega) (by omega)
          omega
      · intro h; omega
    have hlt2 : n < u ↔ q < 1 := by
      constructor
      · intro h
        by_cases c : q < 1
        · exact c
        · have : u * 1 ≤ u * q := Int.mul_le_mul_of_nonneg_left (by omega) (by omega)
          omega
      · intro h
        have : q = 0 := by omega
        subst this; omega
    simp only [hlt, hlt2]
    obtain ⟨a, o, ho0, ho9, rfl⟩ : ∃ a o : Int, 0 ≤ o ∧ o ≤ 9 ∧ q = 10 * a + o := ⟨q / 10, q % 10, by omega, by omega, by omega⟩
    have f1 : (10 * a + o) / 10 = a := by omega
    have f2 : (10 * a + o) % 10 = o := by omega
    rw [f1, f2]
    by_cases h9 : o = 9
    · subst h9
      have g1 : (10 * a + 9 + 1) / 10 = a + 1 := by omega
      have g2 : (10 * a + 9 + 1) % 10 = 0 := by omega
      rw [g1, g2]
      have m1 : (a + 1) * u = a * u + u := by rw [Int.add_mul]; omega
      have m2 : (a - 1) * u = a * u - u := by rw [Int.sub_mul]; omega
      by_cases hz : digit = 0
      · simp only [hz, if_true]
        rw [show a + 1 - 1 = a by omega, m2]
        have : 0 ≤ a → 0 ≤ a * u := fun h => Int.mul_nonneg h (by omega)
        (repeat' split) <;> omega
      · simp only [hz, if_false, Int.sub_zero]
        rw [m1]
        have : 0 ≤ a → 0 ≤ a * u := fun h => Int.mul_nonneg h (by omega)
        (repeat' split) <;> omega
    · have g1 : (10 * a + o + 1) / 10 = a := by omega
      have g2 : (10 * a + o + 1) % 10 = o + 1 := by omega
      rw [g1, g2]
      have : 0 ≤ a - (if digit = 0 then 1 else 0) → 0 ≤ (a - (if digit = 0 then 1 else 0)) * u := fun h => Int.mul_nonneg h (by omega)
      generalize (a - (if digit = 0 then 1 else 0)) * u = z at *
      generalize a - (if digit = 0 then 1 else 0) = y at *
      (repeat' split) <;> omega
  · have e1 : (n + 1) / u = n / u := by
      rw [show n + 1 = (n % u + 1) + u * (n / u) by omega, Int.add_mul_ediv_left _ _ (by omega), Int.ediv_eq_zero_of_lt (by omega) (by omega)]
      omega
    have e2 : (n + 1) % u = n % u + 1 := by
      have := Int.mul_ediv_add_emod (n + 1) u
      rw [e1] at this; omega
    by_cases hlt : n < u
    · have : term u n digit = 0 := by unfold term; rw [if_pos hlt]
      rw [this]; exact term_nonneg hu
    · unfold term
      rw [e1, e2, if_neg hlt, if_neg (show ¬ n + 1 < u by omega)]
      generalize (n / u / 10 - (if digit = 0 then 1 else 0)) * u = z at *
      generalize n / u / 10 - (if digit = 0 then 1 else 0) = y at *
      generalize n % u = r at *
      generalize n / u % 10 = o at *
      clear hq e1 e2
      (repeat' split) <;> omega

/-- how often a digit is written up to n: the places with the weights u, 10 u, .. together -/
def cnt : Nat → Int → Int → Int → Int
  | 0, _, _, _ => 0
  | k + 1, u, n, digit => term u n digit + cnt k (10 * u) n digit

theorem term_out {u n digit : Int} (h : n < u) : term u n digit = 0 := by unfold term; rw [if_pos h]
theorem cnt_out {k : Nat} : ∀ {u n digit : Int}, 0 ≤ u → n < u → cnt k u n digit = 0 := by
  induction k with
  | zero => intro u n digit _ _; rfl
  | succ k ih => intro u n digit h0 h; rw [cnt, term_out h, ih (by omega) (by omega)]; rfl

theorem term_le {u n digit : Int} (hu : 1 ≤ u) (hn : 0 ≤ n) (hd : 0 ≤ digit) : term u n digit ≤ n + 1 := by
  have hq := Int.mul_ediv_add_emod n u
  have hr := Int.emod_nonneg n (show u ≠ 0 by omega)
  have hr2 := Int.emod_lt_of_pos n (show 0 < u by omega)
  have hq0 : 0 ≤ n / u := Int.ediv_nonneg hn (by omega)
  unfold term
  generalize n / u = q at *
  generalize n % u = r at *
  by_cases h1 : n < u
  · rw [if_pos h1]; omega
  rw [if_neg h1]
  have e : 0 ≤ q / 10 := by omega
  have key : ∀ x, x ≤ q / 10 → x * u ≤ q / 10 * u := fun x hx => Int.mul_le_mul_of_nonneg_right hx (by omega)
  have k2 : (q / 10) * u + (if q % 10 ≥ 1 then u else 0) ≤ u * q := by
    obtain ⟨a, o, ho, ho9, rfl⟩ : ∃ a o : Int, 0 ≤ o ∧ o ≤ 9 ∧ q = 10 * a + o := ⟨q / 10, q % 10, by omega, by omega, by omega⟩
    rw [show (10 * a + o) / 10 = a by omega, show (10 * a + o) % 10 = o by omega]
    have e1 : u * (10 * a + o) = 10 * (a * u) + o * u := by grind
    have a0 : 0 ≤ a * u := Int.mul_nonneg (by omega) (by omega)
    by_cases c : o ≥ 1
    · have : 1 * u ≤ o * u := Int.mul_le_mul_of_nonneg_right c (by omega)
      rw [if_pos c]; omega
    · have : o = 0 := by omega
      subst this; rw [if_neg c]; omega
  by_cases hz : digit = 0
  · simp only [hz, if_true]
    by_cases c : q / 10 - 1 < 0
    · rw [if_pos c]; omega
    · rw [if_neg c]
      have : (q / 10 - 1) * u = q / 10 * u - u := by rw [Int.sub_mul]; omega
      rw [this]
      (repeat' split) <;> omega
  · simp only [hz, if_false, Int.sub_zero]
    by_cases c : q / 10 < 0
    · omega
    · rw [if_neg c]
      have o0 : 0 ≤ q % 10 := by omega
      by_cases g : q % 10 > digit
      · rw [if_pos g]; rw [if_pos (by omega)] at k2; omega
      · rw [if_neg g]
        by_cases g2 : q % 10 = digit
        · rw [if_pos g2]; rw [if_pos (by omega)] at k2; omega
        · rw [if_neg g2]; split at k2 <;> omega

theorem cnt_bound {k : Nat} : ∀ {u n digit : Int}, 1 ≤ u → 0 ≤ n → 0 ≤ digit → 0 ≤ cnt k u n digit ∧ cnt k u n digit ≤ k * (n + 1) := by
  induction k with
  | zero => intro u n digit _ _ _; simp [cnt]
  | succ k ih =>
    intro u n digit hu hn hd
    have a := term_le hu hn hd
    have b := term_nonneg (n := n) (digit := digit) hu
    have c := ih (u := 10 * u) (n := n) (digit := digit) (by omega) hn hd
    have e : ((k + 1 : Nat) : Int) * (n + 1) = k * (n + 1) + (n + 1) := by push_cast; grind
    rw [cnt]; omega

theorem cnt_mono {k : Nat} : ∀ {u n digit : Int}, 1 ≤ u → 0 ≤ n → 0 ≤ digit → digit ≤ 9 → cnt k u n digit ≤ cnt k u (n + 1) digit := by
  induction k with
  | zero => intro u n digit _ _ _ _; simp [cnt]
  | succ k ih =>
    intro u n digit hu hn hd hd9
    have a := term_mono hu hn hd hd9
    have c := ih (u := 10 * u) (n := n) (digit := digit) (by omega) hn hd hd9
    rw [cnt, cnt]; omega
theorem div_div10 {n u : Int} (hu : 1 ≤ u) : n / u / 10 = n / (u * 10) := Int.ediv_ediv_of_nonneg (by omega)

/-- one place, in the program: 'rest' are the rounds that are left -/
theorem implPlace (n digit : Int) (h0 : 0 ≤ n) (h1 : n ≤ 1000000000000) (hd : 0 ≤ digit) (hd9 : digit ≤ 9) (k : Nat) (all u : Int) (hu : 1 ≤ u) (hu2 : u ≤ 10000000000000) (ha : 0 ≤ all) (ha2 : all ≤ 100000000000000) (c : u ≤ n) :
    impl_countDigit.l0 (k + 2) n digit all u = (if n / u / 10 - (if digit = 0 then 1 else 0) < 0 then some all else impl_countDigit.l0 k n digit (all + term u n digit) (u * 10)) := by
  have q0 : 0 ≤ n / u := Int.ediv_nonneg h0 (by omega)
  have q1 : n / u ≤ n := Int.ediv_le_self _ h0
  have r0 := Int.emod_nonneg n (show u ≠ 0 by omega)
  have r1 := Int.emod_lt_of_pos n (show 0 < u by omega)
  have hq := Int.mul_ediv_add_emod n u
  simp only [impl_countDigit.l0]
  rw [if_pos c, if_neg (by omega), td h0, tm h0, wi (x := n / u) (by omega) (by omega), td q0, tm q0, wi (x := n / u / 10) (by omega) (by omega), wi (x := n / u / 10 - 1) (by omega) (by omega)]
  have split2 : (if digit = 0 then impl_countDigit.j1 (k + 1) n digit all u (n / u / 10 - 1) (n / u % 10) (n % u) else impl_countDigit.j1 (k + 1) n digit all u (n / u / 10) (n / u % 10) (n % u)) =
      impl_countDigit.j1 (k + 1) n digit all u (n / u / 10 - (if digit = 0 then 1 else 0)) (n / u % 10) (n % u) := by
    by_cases z : digit = 0
    · rw [if_pos z, if_pos z]
    · rw [if_neg z, if_neg z, Int.sub_zero]
  rw [split2]
  unfold term
  obtain ⟨a, ea⟩ : ∃ a, a = n / u / 10 - (if digit = 0 then 1 else 0) := ⟨_, rfl⟩
  have a1 : a ≤ n / u / 10 := by rw [ea]; split <;> omega
  rw [← ea, if_neg (show ¬ n < u by omega)]
  simp only [impl_countDigit.j1]
  by_cases g : a < 0
  · rw [if_pos g, if_pos g]
  · have au : a * u ≤ n := by
      have x1 : a * u ≤ n / u * u := Int.mul_le_mul_of_nonneg_right (by omega) (by omega)
      have x2 : n / u * u = u * (n / u) := Int.mul_comm _ _
      omega
    have au0 : 0 ≤ a * u := Int.mul_nonneg (by omega) (by omega)
    rw [if_neg g, if_neg g, if_neg g, wi (x := a * u) (by omega) (by omega), wi (x := all + a * u) (by omega) (by omega), wi (x := all + a * u + u) (by omega) (by omega), wi (x := n % u + 1) (by omega) (by omega), wi (x := all + a * u + (n % u + 1)) (by omega) (by omega), wi (x := u * 10) (by omega) (by omega)]
    by_cases g2 : n / u % 10 > digit
    · rw [if_pos g2, if_pos g2, Int.add_assoc]
    · rw [if_neg g2, if_neg g2]
      by_cases g3 : n / u % 10 = digit
      · rw [if_pos g3, if_pos g3, Int.add_assoc]
      · rw [if_neg g3, if_neg g3, Int.add_zero]

/-- one place, in the reference -/
theorem specPlace (n digit : Int) (h0 : 0 ≤ n) (h1 : n ≤ 1000000000000) (hd : 0 ≤ digit) (hd9 : digit ≤ 9) (k : Nat) (all u : Int) (hu : 1 ≤ u) (hu2 : u ≤ 10000000000000) (ha : 0 ≤ all) (ha2 : all ≤ 100000000000000) (c : u ≤ n) :
    spec_diCount.l0 (k + 2) n digit all u = spec_diCount.l0 k n digit (all + term u n digit) (u * 10) := by
  have q0 : 0 ≤ n / u := Int.ediv_nonneg h0 (by omega)
  have q1 : n / u ≤ n := Int.ediv_le_self _ h0
  have r0 := Int.emod_nonneg n (show u ≠ 0 by omega)
  have r1 := Int.emod_lt_of_pos n (show 0 < u by omega)
  have hq := Int.mul_ediv_add_emod n u
  simp only [spec_diCount.l0]
  rw [if_pos c, wi (x := u * 10) (by omega) (by omega), if_neg (by omega), if_neg (by omega), td h0, td h0, tm h0, wi (x := n / u) (by omega) (by omega), tm q0, ← div_div10 hu, wi (x := n / u / 10) (by omega) (by omega), wi (x := n / u / 10 - 1) (by omega) (by omega)]
  have split2 : (if digit = 0 then spec_diCount.j1 (k + 1) n digit all u (n / u / 10 - 1) (n / u % 10) (n % u) else spec_diCount.j1 (k + 1) n digit all u (n / u / 10) (n / u % 10) (n % u)) =
      spec_diCount.j1 (k + 1) n digit all u (n / u / 10 - (if digit = 0 then 1 else 0)) (n / u % 10) (n % u) := by
    by_cases z : digit = 0
    · rw [if_pos z, if_pos z]
    · rw [if_neg z, if_neg z, Int.sub_zero]
  rw [split2]
  unfold term
  obtain ⟨a, ea⟩ : ∃ a, a = n / u / 10 - (if digit = 0 then 1 else 0) := ⟨_, rfl⟩
  have a1 : a ≤ n / u / 10 := by rw [ea]; split <;> omega
  rw [← ea, if_neg (show ¬ n < u by omega)]
  simp only [spec_diCount.j1]
  rw [wi (x := u * 10) (by omega) (by omega)]
  by_cases g : a < 0
  · rw [if_pos g, if_pos g, Int.add_zero]
  · have au : a * u ≤ n := by
      have x1 : a * u ≤ n / u * u := Int.mul_le_mul_of_nonneg_right (by omega) (by omega)
      have x2 : n / u * u = u * (n / u) := Int.mul_comm _ _
      omega
    have au0 : 0 ≤ a * u := Int.mul_nonneg (by omega) (by omega)
    rw [if_neg g, if_neg g, wi (x := a * u) (by omega) (by omega), wi (x := all + a * u) (by omega) (by omega), wi (x := all + a * u + u) (by omega) (by omega), wi (x := n % u + 1) (by omega) (by omega), wi (x := all + a * u + (n % u + 1)) (by omega) (by omega)]
    by_cases g2 : n / u % 10 > digit
    · rw [if_pos g2, if_pos g2, Int.add_assoc]
    · rw [if_neg g2, if_neg g2]
      by_cases g3 : n / u % 10 = digit
      · rw [if_pos g3, if_pos g3, Int.add_assoc]
      · rw [if_neg g3, if_neg g3, Int.add_zero]

theorem implCount_go (n digit : Int) (h0 : 0 ≤ n) (h1 : n ≤ 1000000000000) (hd : 0 ≤ digit) (hd9 : digit ≤ 9) (d : Nat) : ∀ (k : Nat) (all u : Int), 1 ≤ u → u ≤ 10000000000000 → 0 ≤ all → all + d * (n + 1) ≤ 100000000000000 → 2 * d < k → n < u * 10 ^ d →
    impl_countDigit.l0 k n digit all u = some (all + cnt d u n digit) := by
  induction d with
  | zero =>
    intro k all u hu hu2 ha ha2 hk hp
    obtain ⟨k, rfl⟩ : ∃ m, k = m + 1 := ⟨k - 1, by omega⟩
    simp only [impl_countDigit.l0]
    rw [if_neg (by simpa using hp), cnt, Int.add_zero]
  | succ d ih =>
    intro k all u hu hu2 ha ha2 hk hp
    have e : ((d + 1 : Nat) : Int) * (n + 1) = d * (n + 1) + (n + 1) := by push_cast; grind
    by_cases c : u ≤ n
    · obtain ⟨k, rfl⟩ : ∃ m, k = m + 2 := ⟨k - 2, by omega⟩
      have dn : 0 ≤ (d : Int) * (n + 1) := Int.mul_nonneg (by omega) (by omega)
      have tl := term_le (digit := digit) hu h0 hd
      have tn := term_nonneg (n := n) (digit := digit) hu
      rw [implPlace n digit h0 h1 hd hd9 k all u hu hu2 ha (by omega) c, cnt]
      by_cases g : n / u / 10 - (if digit = 0 then 1 else 0) < 0
      · have t0 : term u n digit = 0 := by unfold term; rw [if_neg (show ¬ n < u by omega), if_pos g]
        have z : n / u / 10 = 0 := by
          have : 0 ≤ n / u := Int.ediv_nonneg h0 (by omega)
          split at g <;> omega
        have lt : n < 10 * u := by
          have r1 := Int.emod_lt_of_pos n (show 0 < u by omega)
          have hq := Int.mul_ediv_add_emod n u
          have : u * (n / u) ≤ u * 9 := Int.mul_le_mul_of_nonneg_left (by omega) (by omega)
          omega
        rw [if_pos g, t0, cnt_out (by omega) lt, Int.add_zero, Int.add_zero]
      · rw [if_neg g, ih k _ (u * 10) (by omega) (by omega) (by omega) (by omega) (by omega) (by rw [Int.pow_succ] at hp; grind), show u * 10 = 10 * u by omega, Int.add_assoc]
    · obtain ⟨k, rfl⟩ : ∃ m, k = m + 1 := ⟨k - 1, by omega⟩
      simp only [impl_countDigit.l0]
      rw [if_neg c, cnt_out (by omega) (by omega), Int.add_zero]

theorem specCount_go (n digit : Int) (h0 : 0 ≤ n) (h1 : n ≤ 1000000000000) (hd : 0 ≤ digit) (hd9 : digit ≤ 9) (d : Nat) : ∀ (k : Nat) (all u : Int), 1 ≤ u → u ≤ 10000000000000 → 0 ≤ all → all + d * (n + 1) ≤ 100000000000000 → 2 * d < k → n < u * 10 ^ d →
    spec_diCount.l0 k n digit all u = some (all + cnt d u n digit) := by
  induction d with
  | zero =>
    intro k all u hu hu2 ha ha2 hk hp
    obtain ⟨k, rfl⟩ : ∃ m, k = m + 1 := ⟨k - 1, by omega⟩
    simp only [spec_diCount.l0]
    rw [if_neg (by simpa using hp), cnt, Int.add_zero]
  | succ d ih =>
    intro k all u hu hu2 ha ha2 hk hp
    have e : ((d + 1 : Nat) : Int) * (n + 1) = d * (n + 1) + (n + 1) := by push_cast; grind
    by_cases c : u ≤ n
    · obtain ⟨k, rfl⟩ : ∃ m, k = m + 2 := ⟨k - 2, by omega⟩
      have dn : 0 ≤ (d : Int) * (n + 1) := Int.mul_nonneg (by omega) (by omega)
      have tl := term_le (digit := digit) hu h0 hd
      have tn := term_nonneg (n := n) (digit := digit) hu
      rw [specPlace n digit h0 h1 hd hd9 k all u hu hu2 ha (by omega) c, cnt, ih k _ (u * 10) (by omega) (by omega) (by omega) (by omega) (by omega) (by rw [Int.pow_succ] at hp; grind), show u * 10 = 10 * u by omega, Int.add_assoc]
    · obtain ⟨k, rfl⟩ : ∃ m, k = m + 1 := ⟨k - 1, by omega⟩
      simp only [spec_diCount.l0]
      rw [if_neg c, cnt_out (by omega) (by omega), Int.add_zero]

theorem implCount_tells {n digit : Int} (h0 : 0 ≤ n) (h1 : n ≤ 1000000000000) (hd : 0 ≤ digit) (hd9 : digit ≤ 9) {k : Nat} (hk : 26 < k) : impl_countDigit.f k n digit = some (cnt 13 1 n digit) := by
  unfold impl_countDigit.f
  rw [implCount_go n digit h0 h1 hd hd9 13 k 0 1 (by omega) (by omega) (by omega) (by omega) hk (by omega), Int.zero_add]
theorem specCount_tells {n digit : Int} (h0 : 0 ≤ n) (h1 : n ≤ 1000000000000) (hd : 0 ≤ digit) (hd9 : digit ≤ 9) {k : Nat} (hk : 26 < k) : spec_diCount.f k n digit = some (cnt 13 1 n digit) := by
  unfold spec_diCount.f
  rw [specCount_go n digit h0 h1 hd hd9 13 k 0 1 (by omega) (by omega) (by omega) (by omega) hk (by omega), Int.zero_add]
/-- how often each of the digits i, i + 1, .. is written -/
def counts : Nat → Int → Int → List Int
  | 0, _, _ => []
  | d + 1, n, i => cnt 13 1 n i :: counts d n (i + 1)

theorem counts_length (d : Nat) : ∀ n i, (counts d n i).length = d := by
  induction d with
  | zero => intro n i; rfl
  | succ d ih => intro n i; rw [counts, List.length_cons, ih]

theorem implList_go (n : Int) (h0 : 0 ≤ n) (h1 : n ≤ 1000000000000) (d : Nat) : ∀ (k : Nat) (out : List Int) (i : Int), 0 ≤ i → i + d = 10 → out.length = i.toNat → d + 26 < k →
    impl_DigitCounts.l0 k n out i = some (out ++ counts d n i, true) := by
  induction d with
  | zero =>
    intro k out i a b c hk
    obtain ⟨k, rfl⟩ : ∃ m, k = m + 1 := ⟨k - 1, by omega⟩
    simp only [impl_DigitCounts.l0]
    rw [if_neg (by omega), counts, List.append_nil]
  | succ d ih =>
    intro k out i a b c hk
    obtain ⟨k, rfl⟩ : ∃ m, k = m + 1 := ⟨k - 1, by omega⟩
    simp only [impl_DigitCounts.l0]
    rw [if_pos (by omega), implCount_tells h0 h1 a (by omega) (by omega)]
    simp only [Option.bind_some]
    rw [if_pos (by omega), wi (by omega) (by omega), ih k _ (i + 1) (by omega) (by omega) (by simp; omega) (by omega), counts]
    simp

theorem implList_tells (n : Int) (h0 : 0 ≤ n) (h1 : n ≤ 1000000000000) {k : Nat} (hk : 36 < k) : impl_DigitCounts.f k n = some (counts 10 n 0, true) := by
  unfold impl_DigitCounts.f
  rw [isWritten_eq]
  simp only [Option.bind_some, decide_eq_true_eq]
  rw [if_pos ⟨h0, h1⟩, implList_go n h0 h1 10 k [] 0 (by omega) (by omega) rfl (by omega)]; rfl

theorem implList_no (n : Int) (h : ¬ (0 ≤ n ∧ n ≤ 1000000000000)) (k : Nat) : impl_DigitCounts.f k n = some ([], false) := by
  unfold impl_DigitCounts.f
  rw [isWritten_eq]
  simp only [Option.bind_some, decide_eq_true_eq]
  rw [if_neg h]
theorem eqIntS_go (l : List Int) (hl : l.length ≤ 1000000000) (d : Nat) : ∀ (k : Nat) (i : Int), 0 ≤ i → i ≤ l.length → (l.length : Int) - i = d → d < k → laws_eqIntS.l0 k l l i = some true := by
  induction d with
  | zero =>
    intro k i a b c hk
    obtain ⟨k, rfl⟩ : ∃ m, k = m + 1 := ⟨k - 1, by omega⟩
    simp only [laws_eqIntS.l0]; rw [if_neg (by omega)]
  | succ d ih =>
    intro k i a b c hk
    obtain ⟨k, rfl⟩ : ∃ m, k = m + 1 := ⟨k - 1, by omega⟩
    simp only [laws_eqIntS.l0]
    rw [if_pos (by omega), if_pos a, if_pos (by omega), wi (by omega) (by omega)]
    exact ih k (i + 1) (by omega) (by omega) (by omega) (by omega)

/-- a list equals itself -/
theorem eqIntS_self (l : List Int) (hl : l.length ≤ 1000000000) (k : Nat) (hk : l.length < k) : laws_eqIntS.f k l l = some true := by
  unfold laws_eqIntS.f
  rw [if_pos rfl]
  exact eqIntS_go l hl l.length k 0 (by omega) (by omega) (by omega) hk

theorem markIntS_go (n : Nat) (hn : n ≤ 1000000000) (d : Nat) : ∀ (k : Nat) (xs : List Int) (m i : Int), xs.length = n → 0 ≤ m → m + (n - i) ≤ 2000000000 → 0 ≤ i → i ≤ n → (n : Int) - i = d → d < k →
    ∃ ys, laws_markIntS.l0 k xs m i = some (m + (n - i), ys) ∧ ys.length = n ∧ (∀ j : Nat, (j : Int) < i → ys.getD j 0 = xs.getD j 0) ∧ (∀ j : Nat, i ≤ j → j < n → ys.getD j 0 = m + (j - i)) := by
  induction d with
  | zero =>
    intro k xs m i hx m0 m1 a b c hk
    obtain ⟨k, rfl⟩ : ∃ m, k = m + 1 := ⟨k - 1, by omega⟩
    refine ⟨xs, ?_, hx, fun j _ => rfl, fun j p q => by omega⟩
    simp only [laws_markIntS.l0]
    rw [if_neg (by omega), show m + ((n : Int) - i) = m by omega]
  | succ d ih =>
    intro k xs m i hx m0 m1 a b c hk
    obtain ⟨k, rfl⟩ : ∃ m, k = m + 1 := ⟨k - 1, by omega⟩
    simp only [laws_markIntS.l0]
    rw [if_pos (by omega), if_pos a, wi (x := m + 1) (by omega) (by omega), wi (x := i + 1) (by omega) (by omega)]
    obtain ⟨ys, e, l, p, q⟩ := ih k (xs.set i.toNat m) (m + 1) (i + 1) (by simpa using hx) (by omega) (by omega) (by omega) (by omega) (by omega) (by omega)
    refine ⟨ys, by rw [e]; congr 2; omega, l, fun j hj => ?_, fun j hj hj2 => ?_⟩
    · rw [p j (by omega)]
      simp [List.getD_eq_getElem?_getD, List.getElem?_set, show ¬ i.toNat = j by omega]
    · by_cases e2 : (j : Int) = i
      · rw [p j (by omega)]
        have : i.toNat = j := by omega
        simp [List.getD_eq_getElem?_getD, List.getElem?_set, this, hx, hj2]
        omega
      · rw [q j (by omega) hj2]; omega

theorem heldIntS_go (ys : List Int) (hn : ys.length ≤ 1000000000) (d : Nat) : ∀ (k : Nat) (m i : Int), 0 ≤ m → m + (ys.length - i) ≤ 2000000000 → 0 ≤ i → i ≤ ys.length → (ys.length : Int) - i = d → d < k →
    (∀ j : Nat, i ≤ j → j < ys.length → ys.getD j 0 = m + (j - i)) → laws_heldIntS.l0 k ys m i = some (m + (ys.length - i)) := by
  induction d with
  | zero =>
    intro k m i m0 m1 a b c hk q
    obtain ⟨k, rfl⟩ : ∃ m, k = m + 1 := ⟨k - 1, by omega⟩
    simp only [laws_heldIntS.l0]
    rw [if_neg (by omega), show m + ((ys.length : Int) - i) = m by omega]
  | succ d ih =>
    intro k m i m0 m1 a b c hk q
    obtain ⟨k, rfl⟩ : ∃ m, k = m + 1 := ⟨k - 1, by omega⟩
    simp only [laws_heldIntS.l0]
    have h0 : rd ys i = m := by
      unfold rd
      rw [q i.toNat (by omega) (by omega)]; omega
    rw [if_pos (by omega), if_pos a, if_pos h0, wi (x := m + 1) (by omega) (by omega), wi (x := i + 1) (by omega) (by omega),
      ih k (m + 1) (i + 1) (by omega) (by omega) (by omega) (by omega) (by omega) (by omega) (fun j p r => by rw [q j (by omega) r]; omega)]
    congr 1; omega

/-- the marks that are laid into a list are found in it -/
theorem marks_held (xs : List Int) (hl : xs.length ≤ 1000000000) (k : Nat) (hk : xs.length < k) :
    ∃ ys, laws_markIntS.f k xs 1 = some (1 + (xs.length : Int), ys) ∧ ∀ k', xs.length < k' → laws_heldIntS.f k' ys 1 = some (1 + (xs.length : Int)) := by
  unfold laws_markIntS.f
  obtain ⟨ys, e, l, p, q⟩ := markIntS_go xs.length hl xs.length k xs 1 0 rfl (by omega) (by omega) (by omega) (by omega) (by omega) hk
  refine ⟨ys, by rw [e, Int.sub_zero], fun k' hk' => ?_⟩
  unfold laws_heldIntS.f
  rw [heldIntS_go ys (by omega) ys.length k' 1 0 (by omega) (by omega) (by omega) (by omega) (by omega) (by omega) (fun j a b => q j a (by omega)), l, Int.sub_zero]

theorem specList_go (n : Int) (h0 : 0 ≤ n) (h1 : n ≤ 1000000000000) (d : Nat) : ∀ (k : Nat) (out : List Int) (i : Int), 0 ≤ i → i + d = 10 → out.length = i.toNat → d + 26 < k →
    spec_DigitCounts.l0 k n out i = some (out ++ counts d n i, true) := by
  induction d with
  | zero =>
    intro k out i a b c hk
    obtain ⟨k, rfl⟩ : ∃ m, k = m + 1 := ⟨k - 1, by omega⟩
    simp only [spec_DigitCounts.l0]
    rw [if_neg (by omega), counts, List.append_nil]
  | succ d ih =>
    intro k out i a b c hk
    obtain ⟨k, rfl⟩ : ∃ m, k = m + 1 := ⟨k - 1, by omega⟩
    simp only [spec_DigitCounts.l0]
    rw [if_pos (by omega), specCount_tells h0 h1 a (by omega) (by omega)]
    simp only [Option.bind_some]
    rw [if_pos (by omega), wi (by omega) (by omega), ih k _ (i + 1) (by omega) (by omega) (by simp; omega) (by omega), counts]
    simp

theorem FnExactDigitCounts : laws_FnExactDigitCounts.Pure := by
  intro a _
  obtain ⟨k, hk⟩ : ∃ k : Nat, k = 50 := ⟨_, rfl⟩
  refine ⟨k + 2, ?_⟩
  have both : ∃ (l : List Int) (b : Bool), l.length ≤ 10 ∧ spec_DigitCounts.f (k + 2) a = some (l, b) ∧ ∀ k', k ≤ k' → impl_DigitCounts.f k' a = some (l, b) := by
    by_cases h : 0 ≤ a ∧ a ≤ 1000000000000
    · refine ⟨counts 10 a 0, true, by rw [counts_length]; omega, ?_, fun k' hk' => implList_tells a h.1 h.2 (by omega)⟩
      unfold spec_DigitCounts.f
      rw [diGood_eq]
      simp only [Option.bind_some, decide_eq_true_eq]
      rw [if_pos h, specList_go a h.1 h.2 10 (k + 2) [] 0 (by omega) (by omega) rfl (by omega)]; rfl
    · refine ⟨[], false, by simp, ?_, fun k' hk' => implList_no a h k'⟩
      unfold spec_DigitCounts.f
      rw [diGood_eq]
      simp only [Option.bind_some, decide_eq_true_eq]
      rw [if_neg h]
  obtain ⟨l, b, ll, e1, e2⟩ := both
  unfold laws_FnExactDigitCounts.f
  rw [e1, e2 (k + 2) (by omega)]
  simp only [Option.bind_some]
  rw [eqIntS_self l (by omega) (k + 2) (by omega)]
  simp only [Option.bind_some, if_true, bne_self_eq_false, laws_FnExactDigitCounts.j0, Bool.false_eq_true, if_false]
  obtain ⟨ys, m1, m2⟩ := marks_held l (by omega) (k + 1) (by omega)
  rw [m1]
  simp only [Option.bind_some]
  rw [m2 (k + 1) (by omega)]
  simp only [Option.bind_some]
  rw [if_neg (by omega), if_pos trivial, e2 (k + 1) (by omega)]
  simp only [Option.bind_some]
  rw [eqIntS_self l (by omega) (k + 1) (by omega)]
  simp only [Option.bind_some, if_true, bne_self_eq_false, laws_FnExactDigitCounts.j1, Bool.false_eq_true, if_false]
  rw [m2 k (by omega)]
  simp only [Option.bind_some]
  rw [if_neg (by omega), if_pos trivial]
end Go.Proofs.Ytacebfmljjcnpaa.Pure
