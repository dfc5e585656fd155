/-
  LeastForCount: the program's search comes to the least number for which a digit is written at least so often.
-/
import Derived.Test.YtacebfmljjcnpaaHLeast
import Derived.Test.YtacebfmljjcnpaaPFnExactLeastForCountx1
import Derived.Test.YtacebfmljjcnpaaPFnExactCountDigitx1
import Derived.Deep.RegionWith
import Derived.BigQuiet
namespace Go.Proofs.Ytacebfmljjcnpaa.HCount
open Go.RowKit Go.Proofs.YtacebfmljjcnpaaW.PrintWords Go.Proofs.Ytacebfmljjcnpaa.Num
set_option linter.unusedVariables false
set_option linter.unusedSimpArgs false
/-- how often a digit stands at the place with the weight u in the numbers 1..n -/
def term (u n digit : Int) : Int :=
  if n < u then 0 else
  if n / u / 10 - (if digit = 0 then 1 else 0) < 0 then 0 else
  (n / u / 10 - (if digit = 0 then 1 else 0)) * u + (if n / u % 10 > digit then u else if n / u % 10 = digit then n % u + 1 else 0)

theorem term_nonneg {u n digit : Int} (hu : 1 ≤ u) : 0 ≤ term u n digit := by
  unfold term
  have hr := Int.emod_nonneg n (show u ≠ 0 by omega)
  have : 0 ≤ n / u / 10 - (if digit = 0 then 1 else 0) → 0 ≤ (n / u / 10 - (if digit = 0 then 1 else 0)) * u := fun h => Int.mul_nonneg h (by omega)
  generalize (n / u / 10 - (if digit = 0 then 1 else 0)) * u = z at *
  generalize n / u / 10 - (if digit = 0 then 1 else 0) = y at *
  (repeat' split) <;> omega

theorem term_mono {u n digit : Int} (hu : 1 ≤ u) (hn : 0 ≤ n) (hd : 0 ≤ digit) (hd9 : digit ≤ 9) : term u n digit ≤ term u (n + 1) digit := by
  -- n = u * q + r, q = 10 * a + o
  have hq := Int.mul_ediv_add_emod n u
  have hr := Int.emod_nonneg n (show u ≠ 0 by omega)
  have hr2 := Int.emod_lt_of_pos n (show 0 < u by omega)
  have hq0 : 0 ≤ n / u := Int.ediv_nonneg hn (by omega)
  by_cases hw : n % u + 1 = u
  · -- carry
    have e1 : (n + 1) / u = n / u + 1 := by
      rw [show n + 1 = u * (n / u + 1) by rw [Int.mul_add]; omega]
      exact Int.mul_ediv_cancel_left _ (by omega)
    have e2 : (n + 1) % u = 0 := by
      rw [show n + 1 = u * (n / u + 1) by rw [Int.mul_add]; omega]
      exact Int.mul_emod_right _ _
    unfold term
    rw [e1, e2]
    generalize n / u = q at *
    generalize n % u = r at *
    have hlt : n + 1 < u ↔ q + 1 < 1 := by
      constructor
      · intro h
        by_cases c : q + 1 < 1
        · exact c
        · have : u * 0 ≤ u * q := Int.mul_le_mul_of_nonneg_left (by omega) (by omega)
          omega
      · intro h; omega
    have hlt2 : n < u ↔ q < 1 := by
      constructor
      · intro h
        by_cases c : q < 1
        · exact c
        · have : u * 1 ≤ u * q := Int.mul_le_mul_of_nonneg_left (by omega) (by omega)
          omega
      · intro h
        have : q = 0 := by omega
        subst this; omega
    simp only [hlt, hlt2]
    obtain ⟨a, o, ho0, ho9, rfl⟩ : ∃ a o : Int, 0 ≤ o ∧ o ≤ 9 ∧ q = 10 * a + o := ⟨q / 10, q % 10, by omega, by omega, by omega⟩
    have f1 : (10 * a + o) / 10 = a := by omega
    have f2 : (10 * a + o) % 10 = o := by omega
    rw [f1, f2]
    by_cases h9 : o = 9
    · subst h9
      have g1 : (10 * a + 9 + 1) / 10 = a + 1 := by omega
      have g2 : (10 * a + 9 + 1) % 10 = 0 := by omega
      rw [g1, g2]
      have m1 : (a + 1) * u = a * u + u := by rw [Int.add_mul]; omega
      have m2 : (a - 1) * u = a * u - u := by rw [Int.sub_mul]; omega
      by_cases hz : digit = 0
      · simp only [hz, if_true]
        rw [show a + 1 - 1 = a by omega, m2]
        have : 0 ≤ a → 0 ≤ a * u := fun h => Int.mul_nonneg h (by omega)
        (repeat' split) <;> omega
      · simp only [hz, if_false, Int.sub_zero]
        rw [m1]
        have : 0 ≤ a → 0 ≤ a * u := fun h => Int.mul_nonneg h (by omega)
        (repeat' split) <;> omega
    · have g1 : (10 * a + o + 1) / 10 = a := by omega
      have g2 : (10 * a + o + 1) % 10 = o + 1 := by omega
      rw [g1, g2]
      have : 0 ≤ a - (if digit = 0 then 1 else 0) → 0 ≤ (a - (if digit = 0 then 1 else 0)) * u := fun h => Int.mul_nonneg h (by omega)
      generalize (a - (if digit = 0 then 1 else 0)) * u = z at *
      generalize a - (if digit = 0 then 1 else 0) = y at *
      (repeat' split) <;> omega
  · have e1 : (n + 1) / u = n / u := by
      rw [show n + 1 = (n % u + 1) + u * (n / u) by omega, Int.add_mul_ediv_left _ _ (by omega), Int.ediv_eq_zero_of_lt (by omega) (by omega)]
      omega
    have e2 : (n + 1) % u = n % u + 1 := by
      have := Int.mul_ediv_add_emod (n + 1) u
      rw [e1] at this; omega
    by_cases hlt : n < u
    · have : term u n digit = 0 := by unfold term; rw [if_pos hlt]
      rw [this]; exact term_nonneg hu
    · unfold term
      rw [e1, e2, if_neg hlt, if_neg (show ¬ n + 1 < u by omega)]
      generalize (n / u / 10 - (if digit = 0 then 1 else 0)) * u = z at *
      generalize n / u / 10 - (if digit = 0 then 1 else 0) = y at *
      generalize n % u = r at *
      generalize n / u % 10 = o at *
      clear hq e1 e2
      (repeat' split) <;> omega

/-- how often a digit is written up to n: the places with the weights u, 10 u, .. together -/
def cnt : Nat → Int → Int → Int → Int
  | 0, _, _, _ => 0
  | k + 1, u, n, digit => term u n digit + cnt k (10 * u) n digit

theorem term_out {u n digit : Int} (h : n < u) : term u n digit = 0 := by unfold term; rw [if_pos h]
theorem cnt_out {k : Nat} : ∀ {u n digit : Int}, 0 ≤ u → n < u → cnt k u n digit = 0 := by
  induction k with
  | zero => intro u n digit _ _; rfl
  | succ k ih => intro u n digit h0 h; rw [cnt, term_out h, ih (by omega) (by omega)]; rfl

theorem term_le {u n digit : Int} (hu : 1 ≤ u) (hn : 0 ≤ n) (hd : 0 ≤ digit) : term u n digit ≤ n + 1 := by
  have hq := Int.mul_ediv_add_emod n u
  have hr := Int.emod_nonneg n (show u ≠ 0 by omega)
  have hr2 := Int.emod_lt_of_pos n (show 0 < u by omega)
  have hq0 : 0 ≤ n / u := Int.ediv_nonneg hn (by omega)
  unfold term
  generalize n / u = q at *
  generalize n % u = r at *
  by_cases h1 : n < u
  · rw [if_pos h1]; omega
  rw [if_neg h1]
  have e : 0 ≤ q / 10 := by omega
  have key : ∀ x, x ≤ q / 10 → x * u ≤ q / 10 * u := fun x hx => Int.mul_le_mul_of_nonneg_right hx (by omega)
  have k2 : (q / 10) * u + (if q % 10 ≥ 1 then u else 0) ≤ u * q := by
    obtain ⟨a, o, ho, ho9, rfl⟩ : ∃ a o : Int, 0 ≤ o ∧ o ≤ 9 ∧ q = 10 * a + o := ⟨q / 10, q % 10, by omega, by omega, by omega⟩
    rw [show (10 * a + o) / 10 = a by omega, show (10 * a + o) % 10 = o by omega]
    have e1 : u * (10 * a + o) = 10 * (a * u) + o * u := by grind
    have a0 : 0 ≤ a * u := Int.mul_nonneg (by omega) (by omega)
    by_cases c : o ≥ 1
    · have : 1 * u ≤ o * u := Int.mul_le_mul_of_nonneg_right c (by omega)
      rw [if_pos c]; omega
    · have : o = 0 := by omega
      subst this; rw [if_neg c]; omega
  by_cases hz : digit = 0
  · simp only [hz, if_true]
    by_cases c : q / 10 - 1 < 0
    · rw [if_pos c]; omega
    · rw [if_neg c]
      have : (q / 10 - 1) * u = q / 10 * u - u := by rw [Int.sub_mul]; omega
      rw [this]
      (repeat' split) <;> omega
  · simp only [hz, if_false, Int.sub_zero]
    by_cases c : q / 10 < 0
    · omega
    · rw [if_neg c]
      have o0 : 0 ≤ q % 10 := by omega
      by_cases g : q % 10 > digit
      · rw [if_pos g]; rw [if_pos (by omega)] at k2; omega
      · rw [if_neg g]
        by_cases g2 : q % 10 = digit
        · rw [if_pos g2]; rw [if_pos (by omega)] at k2; omega
        · rw [if_neg g2]; split at k2 <;> omega

theorem cnt_bound {k : Nat} : ∀ {u n digit : Int}, 1 ≤ u → 0 ≤ n → 0 ≤ digit → 0 ≤ cnt k u n digit ∧ cnt k u n digit ≤ k * (n + 1) := by
  induction k with
  | zero => intro u n digit _ _ _; simp [cnt]
  | succ k ih =>
    intro u n digit hu hn hd
    have a := term_le hu hn hd
    have b := term_nonneg (n := n) (digit := digit) hu
    have c := ih (u := 10 * u) (n := n) (digit := digit) (by omega) hn hd
    have e : ((k + 1 : Nat) : Int) * (n + 1) = k * (n + 1) + (n + 1) := by push_cast; grind
    rw [cnt]; omega

theorem cnt_mono {k : Nat} : ∀ {u n digit : Int}, 1 ≤ u → 0 ≤ n → 0 ≤ digit → digit ≤ 9 → cnt k u n digit ≤ cnt k u (n + 1) digit := by
  induction k with
  | zero => intro u n digit _ _ _ _; simp [cnt]
  | succ k ih =>
    intro u n digit hu hn hd hd9
    have a := term_mono hu hn hd hd9
    have c := ih (u := 10 * u) (n := n) (digit := digit) (by omega) hn hd hd9
    rw [cnt, cnt]; omega
theorem div_div10 {n u : Int} (hu : 1 ≤ u) : n / u / 10 = n / (u * 10) := Int.ediv_ediv_of_nonneg (by omega)

theorem cnt_up (d : Nat) : ∀ m n digit : Int, 0 ≤ m → n - m = d → 0 ≤ digit → digit ≤ 9 → cnt 13 1 m digit ≤ cnt 13 1 n digit := by
  induction d with
  | zero => intro m n digit _ h _ _; rw [show n = m by omega]; omega
  | succ d ih =>
    intro m n digit h0 h a b
    have x := cnt_mono (k := 13) (u := 1) (n := m) (digit := digit) (by omega) h0 a b
    have y := ih (m + 1) n digit (by omega) (by omega) a b
    omega
end Go.Proofs.Ytacebfmljjcnpaa.HCount

namespace Go.Proofs.Ytacebfmljjcnpaa.HCountImpl
open Go.RowKit Go.Proofs.YtacebfmljjcnpaaW.PrintWords Go.Proofs.Ytacebfmljjcnpaa.Num Go.Proofs.Ytacebfmljjcnpaa.HCount Go.Proofs.Ytacebfmljjcnpaa.PFnExactCountDigit
set_option linter.unusedVariables false
set_option linter.unusedSimpArgs false
/-- one place, in the program: 'rest' are the rounds that are left -/
theorem implPlace (n digit : Int) (h0 : 0 ≤ n) (h1 : n ≤ 1000000000000) (hd : 0 ≤ digit) (hd9 : digit ≤ 9) (k : Nat) (all u : Int) (hu : 1 ≤ u) (hu2 : u ≤ 10000000000000) (ha : 0 ≤ all) (ha2 : all ≤ 100000000000000) (c : u ≤ n) :
    impl_countDigit.l0 (k + 2) n digit all u = (if n / u / 10 - (if digit = 0 then 1 else 0) < 0 then some all else impl_countDigit.l0 k n digit (all + term u n digit) (u * 10)) := by
  have q0 : 0 ≤ n / u := Int.ediv_nonneg h0 (by omega)
  have q1 : n / u ≤ n := Int.ediv_le_self _ h0
  have r0 := Int.emod_nonneg n (show u ≠ 0 by omega)
  have r1 := Int.emod_lt_of_pos n (show 0 < u by omega)
  have hq := Int.mul_ediv_add_emod n u
  simp only [impl_countDigit.l0]
  rw [if_pos c, if_neg (by omega), td h0, tm h0, wi (x := n / u) (by omega) (by omega), td q0, tm q0, wi (x := n / u / 10) (by omega) (by omega), wi (x := n / u / 10 - 1) (by omega) (by omega)]
  have split2 : (if digit = 0 then impl_countDigit.j1 (k + 1) n digit all u (n / u / 10 - 1) (n / u % 10) (n % u) else impl_countDigit.j1 (k + 1) n digit all u (n / u / 10) (n / u % 10) (n % u)) =
      impl_countDigit.j1 (k + 1) n digit all u (n / u / 10 - (if digit = 0 then 1 else 0)) (n / u % 10) (n % u) := by
    by_cases z : digit = 0
    · rw [if_pos z, if_pos z]
    · rw [if_neg z, if_neg z, Int.sub_zero]
  rw [split2]
  unfold term
  obtain ⟨a, ea⟩ : ∃ a, a = n / u / 10 - (if digit = 0 then 1 else 0) := ⟨_, rfl⟩
  have a1 : a ≤ n / u / 10 := by rw [ea]; split <;> omega
  rw [← ea, if_neg (show ¬ n < u by omega)]
  simp only [impl_countDigit.j1]
  by_cases g : a < 0
  · rw [if_pos g, if_pos g]
  · have au : a * u ≤ n := by
      have x1 : a * u ≤ n / u * u := Int.mul_le_mul_of_nonneg_right (by omega) (by omega)
      have x2 : n / u * u = u * (n / u) := Int.mul_comm _ _
      omega
    have au0 : 0 ≤ a * u := Int.mul_nonneg (by omega) (by omega)
    rw [if_neg g, if_neg g, if_neg g, wi (x := a * u) (by omega) (by omega), wi (x := all + a * u) (by omega) (by omega), wi (x := all + a * u + u) (by omega) (by omega), wi (x := n % u + 1) (by omega) (by omega), wi (x := all + a * u + (n % u + 1)) (by omega) (by omega), wi (x := u * 10) (by omega) (by omega)]
    by_cases g2 : n / u % 10 > digit
    · rw [if_pos g2, if_pos g2, Int.add_assoc]
    · rw [if_neg g2, if_neg g2]
      by_cases g3 : n / u % 10 = digit
      · rw [if_pos g3, if_pos g3, Int.add_assoc]
      · rw [if_neg g3, if_neg g3, Int.add_zero]

theorem implCount_go (n digit : Int) (h0 : 0 ≤ n) (h1 : n ≤ 1000000000000) (hd : 0 ≤ digit) (hd9 : digit ≤ 9) (d : Nat) : ∀ (k : Nat) (all u : Int), 1 ≤ u → u ≤ 10000000000000 → 0 ≤ all → all + d * (n + 1) ≤ 100000000000000 → 2 * d < k → n < u * 10 ^ d →
    impl_countDigit.l0 k n digit all u = some (all + cnt d u n digit) := by
  induction d with
  | zero =>
    intro k all u hu hu2 ha ha2 hk hp
    obtain ⟨k, rfl⟩ : ∃ m, k = m + 1 := ⟨k - 1, by omega⟩
    simp only [impl_countDigit.l0]
    rw [if_neg (by simpa using hp), cnt, Int.add_zero]
  | succ d ih =>
    intro k all u hu hu2 ha ha2 hk hp
    have e : ((d + 1 : Nat) : Int) * (n + 1) = d * (n + 1) + (n + 1) := by push_cast; grind
    by_cases c : u ≤ n
    · obtain ⟨k, rfl⟩ : ∃ m, k = m + 2 := ⟨k - 2, by omega⟩
      have dn : 0 ≤ (d : Int) * (n + 1) := Int.mul_nonneg (by omega) (by omega)
      have tl := term_le (digit := digit) hu h0 hd
      have tn := term_nonneg (n := n) (digit := digit) hu
      rw [implPlace n digit h0 h1 hd hd9 k all u hu hu2 ha (by omega) c, cnt]
      by_cases g : n / u / 10 - (if digit = 0 then 1 else 0) < 0
      · have t0 : term u n digit = 0 := by unfold term; rw [if_neg (show ¬ n < u by omega), if_pos g]
        have z : n / u / 10 = 0 := by
          have : 0 ≤ n / u := Int.ediv_nonneg h0 (by omega)
          split at g <;> omega
        have lt : n < 10 * u := by
          have r1 := Int.emod_lt_of_pos n (show 0 < u by omega)
          have hq := Int.mul_ediv_add_emod n u
          have : u * (n / u) ≤ u * 9 := Int.mul_le_mul_of_nonneg_left (by omega) (by omega)
          omega
        rw [if_pos g, t0, cnt_out (by omega) lt, Int.add_zero, Int.add_zero]
      · rw [if_neg g, ih k _ (u * 10) (by omega) (by omega) (by omega) (by omega) (by omega) (by rw [Int.pow_succ] at hp; grind), show u * 10 = 10 * u by omega, Int.add_assoc]
    · obtain ⟨k, rfl⟩ : ∃ m, k = m + 1 := ⟨k - 1, by omega⟩
      simp only [impl_countDigit.l0]
      rw [if_neg c, cnt_out (by omega) (by omega), Int.add_zero]

theorem implCount_tells {n digit : Int} (h0 : 0 ≤ n) (h1 : n ≤ 1000000000000) (hd : 0 ≤ digit) (hd9 : digit ≤ 9) {k : Nat} (hk : 26 < k) : impl_countDigit.f k n digit = some (cnt 13 1 n digit) := by
  unfold impl_countDigit.f
  rw [implCount_go n digit h0 h1 hd hd9 13 k 0 1 (by omega) (by omega) (by omega) (by omega) hk (by omega), Int.zero_add]

theorem counted_any {n digit : Int} (h0 : 0 ≤ n) (h1 : n ≤ 1000000000000) (hd : 0 ≤ digit) (hd9 : digit ≤ 9) (w : World) :
    Calls Try.prog 37 #[.int .i64 n, .int .i64 digit] w fun e w' => e = .returned (.int .i64 (cnt 13 1 n digit)) ∧ Below w.heap.size w w' :=
  (impl_countDigit.calls 30 n digit _ w (implCount_tells h0 h1 hd hd9 (by omega))).mono fun _ _ ⟨he, hd⟩ => ⟨he, hd.below⟩
end Go.Proofs.Ytacebfmljjcnpaa.HCountImpl

namespace Go.Proofs.Ytacebfmljjcnpaa.HLeastCount
open Go.RowKit Go.Proofs.YtacebfmljjcnpaaW.PrintWords Go.Proofs.Ytacebfmljjcnpaa.Num Go.Proofs.Ytacebfmljjcnpaa.HCount Go.Proofs.Ytacebfmljjcnpaa.HCountImpl Go.Proofs.Ytacebfmljjcnpaa.PFnExactLeastForCount Go.Proofs.Ytacebfmljjcnpaa.HLeast
set_option linter.unusedVariables false
set_option linter.unusedSimpArgs false
theorem l1In_eq (a b c : Int) : spec_l1In.f a b c = some (decide (b ≤ a ∧ a ≤ c)) := by
  unfold spec_l1In.f
  by_cases h : a ≥ b
  · rw [if_pos h]; congr 1; simp; omega
  · rw [if_neg h]; congr 1; simp; omega
theorem within_eq (a b c : Int) : impl_within.f a b c = some (decide (b ≤ a ∧ a ≤ c)) := by
  unfold impl_within.f
  by_cases h : b ≤ a
  · rw [if_pos h]; congr 1; simp; omega
  · rw [if_neg h]; congr 1; simp; omega
theorem diDigit_eq (a : Int) : spec_diDigit.f a = some (decide (0 ≤ a ∧ a ≤ 9)) := by
  unfold spec_diDigit.f; rw [l1In_eq]; rfl
theorem isDigit_eq (a : Int) : impl_isDigit.f a = some (decide (0 ≤ a ∧ a ≤ 9)) := by
  unfold impl_isDigit.f; rw [within_eq]; rfl
/-- one place, in the reference -/
theorem specPlace (n digit : Int) (h0 : 0 ≤ n) (h1 : n ≤ 1000000000000) (hd : 0 ≤ digit) (hd9 : digit ≤ 9) (k : Nat) (all u : Int) (hu : 1 ≤ u) (hu2 : u ≤ 10000000000000) (ha : 0 ≤ all) (ha2 : all ≤ 100000000000000) (c : u ≤ n) :
    spec_diCount.l0 (k + 2) n digit all u = spec_diCount.l0 k n digit (all + term u n digit) (u * 10) := by
  have q0 : 0 ≤ n / u := Int.ediv_nonneg h0 (by omega)
  have q1 : n / u ≤ n := Int.ediv_le_self _ h0
  have r0 := Int.emod_nonneg n (show u ≠ 0 by omega)
  have r1 := Int.emod_lt_of_pos n (show 0 < u by omega)
  have hq := Int.mul_ediv_add_emod n u
  simp only [spec_diCount.l0]
  rw [if_pos c, wi (x := u * 10) (by omega) (by omega), if_neg (by omega), if_neg (by omega), td h0, td h0, tm h0, wi (x := n / u) (by omega) (by omega), tm q0, ← div_div10 hu, wi (x := n / u / 10) (by omega) (by omega), wi (x := n / u / 10 - 1) (by omega) (by omega)]
  have split2 : (if digit = 0 then spec_diCount.j1 (k + 1) n digit all u (n / u / 10 - 1) (n / u % 10) (n % u) else spec_diCount.j1 (k + 1) n digit all u (n / u / 10) (n / u % 10) (n % u)) =
      spec_diCount.j1 (k + 1) n digit all u (n / u / 10 - (if digit = 0 then 1 else 0)) (n / u % 10) (n % u) := by
    by_cases z : digit = 0
    · rw [if_pos z, if_pos z]
    · rw [if_neg z, if_neg z, Int.sub_zero]
  rw [split2]
  unfold term
  obtain ⟨a, ea⟩ : ∃ a, a = n / u / 10 - (if digit = 0 then 1 else 0) := ⟨_, rfl⟩
  have a1 : a ≤ n / u / 10 := by rw [ea]; split <;> omega
  rw [← ea, if_neg (show ¬ n < u by omega)]
  simp only [spec_diCount.j1]
  rw [wi (x := u * 10) (by omega) (by omega)]
  by_cases g : a < 0
  · rw [if_pos g, if_pos g, Int.add_zero]
  · have au : a * u ≤ n := by
      have x1 : a * u ≤ n / u * u := Int.mul_le_mul_of_nonneg_right (by omega) (by omega)
      have x2 : n / u * u = u * (n / u) := Int.mul_comm _ _
      omega
    have au0 : 0 ≤ a * u := Int.mul_nonneg (by omega) (by omega)
    rw [if_neg g, if_neg g, wi (x := a * u) (by omega) (by omega), wi (x := all + a * u) (by omega) (by omega), wi (x := all + a * u + u) (by omega) (by omega), wi (x := n % u + 1) (by omega) (by omega), wi (x := all + a * u + (n % u + 1)) (by omega) (by omega)]
    by_cases g2 : n / u % 10 > digit
    · rw [if_pos g2, if_pos g2, Int.add_assoc]
    · rw [if_neg g2, if_neg g2]
      by_cases g3 : n / u % 10 = digit
      · rw [if_pos g3, if_pos g3, Int.add_assoc]
      · rw [if_neg g3, if_neg g3, Int.add_zero]

theorem specCount_go (n digit : Int) (h0 : 0 ≤ n) (h1 : n ≤ 1000000000000) (hd : 0 ≤ digit) (hd9 : digit ≤ 9) (d : Nat) : ∀ (k : Nat) (all u : Int), 1 ≤ u → u ≤ 10000000000000 → 0 ≤ all → all + d * (n + 1) ≤ 100000000000000 → 2 * d < k → n < u * 10 ^ d →
    spec_diCount.l0 k n digit all u = some (all + cnt d u n digit) := by
  induction d with
  | zero =>
    intro k all u hu hu2 ha ha2 hk hp
    obtain ⟨k, rfl⟩ : ∃ m, k = m + 1 := ⟨k - 1, by omega⟩
    simp only [spec_diCount.l0]
    rw [if_neg (by simpa using hp), cnt, Int.add_zero]
  | succ d ih =>
    intro k all u hu hu2 ha ha2 hk hp
    have e : ((d + 1 : Nat) : Int) * (n + 1) = d * (n + 1) + (n + 1) := by push_cast; grind
    by_cases c : u ≤ n
    · obtain ⟨k, rfl⟩ : ∃ m, k = m + 2 := ⟨k - 2, by omega⟩
      have dn : 0 ≤ (d : Int) * (n + 1) := Int.mul_nonneg (by omega) (by omega)
      have tl := term_le (digit := digit) hu h0 hd
      have tn := term_nonneg (n := n) (digit := digit) hu
      rw [specPlace n digit h0 h1 hd hd9 k all u hu hu2 ha (by omega) c, cnt, ih k _ (u * 10) (by omega) (by omega) (by omega) (by omega) (by omega) (by rw [Int.pow_succ] at hp; grind), show u * 10 = 10 * u by omega, Int.add_assoc]
    · obtain ⟨k, rfl⟩ : ∃ m, k = m + 1 := ⟨k - 1, by omega⟩
      simp only [spec_diCount.l0]
      rw [if_neg c, cnt_out (by omega) (by omega), Int.add_zero]

theorem specCount_tells {n digit : Int} (h0 : 0 ≤ n) (h1 : n ≤ 1000000000000) (hd : 0 ≤ digit) (hd9 : digit ≤ 9) {k : Nat} (hk : 26 < k) : spec_diCount.f k n digit = some (cnt 13 1 n digit) := by
  unfold spec_diCount.f
  rw [specCount_go n digit h0 h1 hd hd9 13 k 0 1 (by omega) (by omega) (by omega) (by omega) hk (by omega), Int.zero_add]

set_option maxHeartbeats 1000000 in
theorem closure_tells (B C : Nat) (digit many : Int) (w : World) (hd : 0 ≤ digit) (hd9 : digit ≤ 9) (hB : B < w.heap.size) (hC : C < w.heap.size) (hb0 : w.cell? ⟨B, 0, none⟩ = some (.int .i64 digit)) (hc0 : w.cell? ⟨C, 0, none⟩ = some (.int .i64 many)) :
    Tells 49 #[.pointer (some ⟨B, 0, none⟩), .pointer (some ⟨C, 0, none⟩)] (fun x => decide (many ≤ cnt 13 1 x digit)) 1 1000000000000 w := by
  intro W x hb hx0 hx1
  have hbW : W.cell? ⟨B, 0, none⟩ = some (.int .i64 digit) := (hb.cell (p := ⟨B, 0, none⟩) hB).trans hb0
  have hcW : W.cell? ⟨C, 0, none⟩ = some (.int .i64 many) := (hb.cell (p := ⟨C, 0, none⟩) hC).trans hc0
  have hBW : B < W.heap.size := Nat.lt_of_lt_of_le hB hb.size
  have hCW : C < W.heap.size := Nat.lt_of_lt_of_le hC hb.size
  have HB := Aside0.mk hb
  clear hb hb0 hc0
  have hx : 0 ≤ x := by omega
  go_enter Try.func49, Try.ntmps49
  go_wp2
  go_region_with (go_at_call 37; refine (counted_any hx hx1 hd hd9 _).mono ?_; rintro e w1 ⟨rfl, hb1⟩; have c1 := (hb1.cell (p := ⟨C, 0, none⟩) (by simpa using hCW)).trans hcW)
  all_goals
    go_wp2
    go_ret
    exact ⟨rfl, HB.out.drew.trans (hb1.mono HB.out.size)⟩

/-- where the search ends, and what is handed back of it -/
def told (r : Int) : Int × Bool := if r > 1000000000000 then (0, false) else (r, true)

theorem cut_is (many digit : Int) (hd : 0 ≤ digit) (hd9 : digit ≤ 9) : ∃ r, Cut (fun x => decide (many ≤ cnt 13 1 x digit)) 1 (1000000000000 + 1) r := by
  have go : ∀ (d : Nat) (lo : Int), 1 ≤ lo → lo ≤ 1000000000001 → 1000000000001 - lo = d → (∀ m, 1 ≤ m → m < lo → cnt 13 1 m digit < many) → ∃ r, Cut (fun x => decide (many ≤ cnt 13 1 x digit)) 1 (1000000000000 + 1) r := by
    intro d
    induction d with
    | zero => intro lo a b c n; exact ⟨lo, a, by omega, fun m x y => decide_eq_false (by have := n m x y; omega), fun m x y => by omega⟩
    | succ d ih =>
      intro lo a b c n
      by_cases g : cnt 13 1 lo digit < many
      · exact ih (lo + 1) (by omega) (by omega) (by omega) (fun m x y => by
          by_cases e : m = lo
          · rw [e]; exact g
          · exact n m x (by omega))
      · exact ⟨lo, a, by omega, fun m x y => decide_eq_false (by have := n m x y; omega), fun m x y => decide_eq_true (by
          have := cnt_up (m - lo).toNat lo m digit (by omega) (by omega) hd hd9; omega)⟩
  exact go 1000000000000 1 (by omega) (by omega) (by omega) (fun m x y => by omega)

theorem below_boxes {w w' : World} {o o2 : Obj} {n : Nat} (hb : Below (((w.alloc o).alloc o2).drewN n).heap.size (((w.alloc o).alloc o2).drewN n) w') : Below w.heap.size w w' := by
  have h1 : Below w.heap.size w (((w.alloc o).alloc o2).drewN n) := pw_below_drewN (((Below.refl _ w).alloc (Nat.le_refl _) _).alloc (by simp) _) n
  exact h1.trans (hb.mono h1.size)

set_option maxHeartbeats 2000000 in
theorem impl_yes (digit many : Int) (hd : 0 ≤ digit) (hd9 : digit ≤ 9) (h0 : 1 ≤ many) (h1 : many ≤ 1000000000000) (r : Int) (c : Cut (fun x => decide (many ≤ cnt 13 1 x digit)) 1 (1000000000000 + 1) r) (w : World) :
    Calls Try.prog 24 #[.int .i64 digit, .int .i64 many] w fun e w' => e = .returned (.tuple #[.int .i64 (told r).1, .bool (told r).2]) ∧ Below w.heap.size w w' := by
  have HI : Aside0 (impl_within.f many 1 1000000000000 = some true) := ⟨by rw [within_eq, decide_eq_true ⟨h0, h1⟩]⟩
  have HD : Aside0 (impl_isDigit.f digit = some true) := ⟨by rw [isDigit_eq, decide_eq_true ⟨hd, hd9⟩]⟩
  have R := Aside0.mk c
  clear c
  have HC := fun (W : World) (hB : w.heap.size < W.heap.size) (hC : w.heap.size + 1 < W.heap.size) (hb : W.cell? ⟨w.heap.size, 0, none⟩ = some (.int .i64 digit)) (hc : W.cell? ⟨w.heap.size + 1, 0, none⟩ = some (.int .i64 many)) =>
    least_any 49 #[.pointer (some ⟨w.heap.size, 0, none⟩), .pointer (some ⟨w.heap.size + 1, 0, none⟩)] (enters_of Try.func49 (by kernel_rfl) rfl) (fun x => decide (many ≤ cnt 13 1 x digit)) 1 1000000000000 W (by omega) (by omega) (by omega)
      (closure_tells w.heap.size (w.heap.size + 1) digit many W hd hd9 hB hC hb hc) (fun m n a b c d => by
        have := cnt_up (n - m).toNat m n digit (by omega) (by omega) hd hd9
        simp only [decide_eq_true_eq] at d ⊢; omega)
  have HL := Aside0.mk HC
  clear HC
  have r0 := R.out.low
  have r1 := R.out.high
  by_cases g : r > 1000000000000
  · have gb : decide ((1000000000000 : Int) < r) = true := decide_eq_true g
    have tg : Aside0 (told r = (0, false)) := ⟨by unfold told; rw [if_pos g]⟩
    go_enter Try.func24, Try.ntmps24
    go_wp2_with (first | (go_at_call 36; refine (impl_isDigit.calls digit true _ HD.out).mono ?_; rintro e w' ⟨rfl, ⟨nd, rfl⟩⟩) | (go_at_call 47; refine (impl_within.calls many 1 1000000000000 true _ HI.out).mono ?_; rintro e w' ⟨rfl, ⟨nd2, rfl⟩⟩) | (go_at_call 43; refine (HL.out _ (by simp; omega) (by simp) (by simp) (by simp)).mono ?_; rintro e w1 ⟨q, hr, rfl, hb⟩; obtain rfl := R.out.one hr))
    go_ret2
    rw [tg.out]
    exact ⟨rfl, below_boxes hb⟩
  · have gb : decide ((1000000000000 : Int) < r) = false := decide_eq_false g
    have tg : Aside0 (told r = (r, true)) := ⟨by unfold told; rw [if_neg g]⟩
    go_enter Try.func24, Try.ntmps24
    go_wp2_with (first | (go_at_call 36; refine (impl_isDigit.calls digit true _ HD.out).mono ?_; rintro e w' ⟨rfl, ⟨nd, rfl⟩⟩) | (go_at_call 47; refine (impl_within.calls many 1 1000000000000 true _ HI.out).mono ?_; rintro e w' ⟨rfl, ⟨nd2, rfl⟩⟩) | (go_at_call 43; refine (HL.out _ (by simp; omega) (by simp) (by simp) (by simp)).mono ?_; rintro e w1 ⟨q, hr, rfl, hb⟩; obtain rfl := R.out.one hr))
    go_ret2
    rw [tg.out]
    exact ⟨rfl, below_boxes hb⟩

theorem impl_no (digit many : Int) (h : ¬ (0 ≤ digit ∧ digit ≤ 9 ∧ 1 ≤ many ∧ many ≤ 1000000000000)) (w : World) :
    Calls Try.prog 24 #[.int .i64 digit, .int .i64 many] w fun e w' => e = .returned (.tuple #[.int .i64 0, .bool false]) ∧ Below w.heap.size w w' := by
  by_cases g : 0 ≤ digit ∧ digit ≤ 9
  · have HD : Aside0 (impl_isDigit.f digit = some true) := ⟨by rw [isDigit_eq, decide_eq_true g]⟩
    have HI : Aside0 (impl_within.f many 1 1000000000000 = some false) := ⟨by rw [within_eq, decide_eq_false (by omega)]⟩
    clear h
    go_enter Try.func24, Try.ntmps24
    go_wp2_with (first | (go_at_call 36; refine (impl_isDigit.calls digit true _ HD.out).mono ?_; rintro e w' ⟨rfl, ⟨nd, rfl⟩⟩) | (go_at_call 47; refine (impl_within.calls many 1 1000000000000 false _ HI.out).mono ?_; rintro e w' ⟨rfl, ⟨nd2, rfl⟩⟩))
    go_ret2
    exact ⟨rfl, pw_below_drewN (((Below.refl _ w).alloc (Nat.le_refl _) _).alloc (by simp) _) (nd + nd2)⟩
  · have HD : Aside0 (impl_isDigit.f digit = some false) := ⟨by rw [isDigit_eq, decide_eq_false g]⟩
    clear h g
    go_enter Try.func24, Try.ntmps24
    go_wp2_with (go_at_call 36; refine (impl_isDigit.calls digit false _ HD.out).mono ?_; rintro e w' ⟨rfl, ⟨nd, rfl⟩⟩)
    go_ret2
    exact ⟨rfl, pw_below_drewN (((Below.refl _ w).alloc (Nat.le_refl _) _).alloc (by simp) _) nd⟩

theorem spec_half (digit many : Int) (hd : 0 ≤ digit) (hd9 : digit ≤ 9) (d : Nat) : ∀ (k : Nat) (lo hi : Int), 1 ≤ lo → lo ≤ hi → hi ≤ 1000000000000 → hi - lo ≤ d → d + 28 < k →
    (∀ m, 1 ≤ m → m < lo → cnt 13 1 m digit < many) → many ≤ cnt 13 1 hi digit →
    ∃ r, spec_LeastForCount.l0 k digit many lo hi = some (r, true) ∧ r ≤ 1000000000000 ∧ Cut (fun x => decide (many ≤ cnt 13 1 x digit)) 1 (1000000000000 + 1) r := by
  have fin : ∀ (k : Nat) (lo : Int), 1 ≤ lo → lo ≤ 1000000000000 → 0 < k → (∀ m, 1 ≤ m → m < lo → cnt 13 1 m digit < many) → many ≤ cnt 13 1 lo digit →
      ∃ r, spec_LeastForCount.l0 k digit many lo lo = some (r, true) ∧ r ≤ 1000000000000 ∧ Cut (fun x => decide (many ≤ cnt 13 1 x digit)) 1 (1000000000000 + 1) r := by
    intro k lo a b hk p q
    obtain ⟨k, rfl⟩ : ∃ m, k = m + 1 := ⟨k - 1, by omega⟩
    refine ⟨lo, by simp only [spec_LeastForCount.l0]; rw [if_neg (by omega)], b, a, by omega, fun m x y => decide_eq_false (by have := p m x y; omega), fun m x y => decide_eq_true (by
      have := cnt_up (m - lo).toNat lo m digit (by omega) (by omega) hd hd9; omega)⟩
  induction d with
  | zero =>
    intro k lo hi a1 a2 a3 a4 hk p q
    have : hi = lo := by omega
    subst this
    exact fin k hi a1 a3 (by omega) p q
  | succ d ih =>
    intro k lo hi a1 a2 a3 a4 hk p q
    by_cases c : lo < hi
    · obtain ⟨k, rfl⟩ : ∃ m, k = m + 1 := ⟨k - 1, by omega⟩
      obtain ⟨mid, hm⟩ : ∃ mid, mid = (lo + hi) / 2 := ⟨_, rfl⟩
      have e : Int.tdiv (wrap64 (lo + hi)) 2 = (lo + hi) / 2 := by rw [wi (by omega) (by omega), td2 (by omega)]
      simp only [spec_LeastForCount.l0]
      rw [if_pos c, e, ← hm, wi (x := mid) (by omega) (by omega), specCount_tells (by omega) (by omega) hd hd9 (by omega), wi (x := mid + 1) (by omega) (by omega)]
      simp only [Option.bind_some]
      by_cases g : cnt 13 1 mid digit ≥ many
      · rw [if_pos g]
        exact ih k lo mid (by omega) (by omega) (by omega) (by omega) (by omega) p g
      · rw [if_neg g]
        exact ih k (mid + 1) hi (by omega) (by omega) a3 (by omega) (by omega) (fun m x y => by
          have := cnt_up (mid - m).toNat m mid digit (by omega) (by omega) hd hd9; omega) q
    · have : hi = lo := by omega
      subst this
      exact fin k hi a1 a3 (by omega) p q

theorem spec_yes (digit many : Int) (hd : 0 ≤ digit) (hd9 : digit ≤ 9) (h0 : 1 ≤ many) (h1 : many ≤ 1000000000000) (r : Int) (c : Cut (fun x => decide (many ≤ cnt 13 1 x digit)) 1 (1000000000000 + 1) r) :
    spec_LeastForCount.f 1000000000040 digit many = some ((told r).1, (told r).2) := by
  obtain ⟨k, hk⟩ : ∃ k : Nat, k = 1000000000039 := ⟨_, rfl⟩
  have r0 := c.low
  have r1 := c.high
  unfold spec_LeastForCount.f
  rw [diDigit_eq, l1In_eq, specCount_tells (by omega) (by omega) hd hd9 (by omega), show 1000000000040 = k + 1 by omega]
  simp only [Option.bind_some, decide_eq_true_eq, spec_LeastForCount.j0]
  rw [if_pos ⟨hd, hd9⟩, if_pos ⟨h0, h1⟩]
  by_cases g : cnt 13 1 1000000000000 digit < many
  · have e : r = 1000000000001 := by
      by_cases z : r ≤ 1000000000000
      · have := c.yes 1000000000000 z (by omega)
        simp only [decide_eq_true_eq] at this; omega
      · omega
    rw [if_pos g]
    unfold told
    rw [if_pos (by omega)]
  · obtain ⟨q, e, q1, d⟩ := spec_half digit many hd hd9 1000000000000 k 1 1000000000000 (by omega) (by omega) (by omega) (by omega) (by omega) (fun m x y => by omega) (by omega)
    rw [if_neg g, e, c.one d]
    unfold told
    rw [if_neg (by omega)]

theorem spec_no (digit many : Int) (h : ¬ (0 ≤ digit ∧ digit ≤ 9 ∧ 1 ≤ many ∧ many ≤ 1000000000000)) : spec_LeastForCount.f 1 digit many = some (0, false) := by
  unfold spec_LeastForCount.f
  rw [diDigit_eq, l1In_eq]
  simp only [Option.bind_some, decide_eq_true_eq, spec_LeastForCount.j0]
  by_cases g : 0 ≤ digit ∧ digit ≤ 9
  · rw [if_pos g, if_neg (by omega)]; simp
  · rw [if_neg g]; simp

set_option maxHeartbeats 1000000 in
/-- the law's own walk -/
theorem walk (digit many : Int) (w : World) :
    Calls Try.prog 9 #[.int .i64 digit, .int .i64 many] w fun e w' => e = .returned (.bool true) ∧ Below w.heap.size w w' := by
  by_cases h : 0 ≤ digit ∧ digit ≤ 9 ∧ 1 ≤ many ∧ many ≤ 1000000000000
  · obtain ⟨hd, hd9, h0, h1⟩ := h
    obtain ⟨r, c⟩ := cut_is many digit hd hd9
    have HS := Aside0.mk (spec_yes digit many hd hd9 h0 h1 r c)
    have R := Aside0.mk c
    clear c
    obtain ⟨a, ha⟩ : ∃ a, a = (told r).1 := ⟨_, rfl⟩
    obtain ⟨b, hb⟩ : ∃ b, b = (told r).2 := ⟨_, rfl⟩
    have HM := Aside0.mk (fun W => impl_yes digit many hd hd9 h0 h1 r R.out W)
    rw [← ha, ← hb] at HS HM
    clear ha hb R
    go_enter Try.func9, Try.ntmps9
    go_wp2_with (first | (go_at_call 23; refine (spec_LeastForCount.calls 1000000000040 digit many a b _ HS.out).mono ?_; rintro e w1 ⟨rfl, ⟨nd, rfl⟩⟩) | (go_at_call 24; refine (HM.out _).mono ?_; rintro e w' ⟨rfl, hb⟩))
    go_ret
    exact ⟨rfl, (pw_below_drewN (Below.refl _ w) nd).trans hb⟩
  · have HS : Aside0 _ := ⟨spec_no digit many h⟩
    have HM := Aside0.mk (fun W => impl_no digit many h W)
    clear h
    go_enter Try.func9, Try.ntmps9
    go_wp2_with (first | (go_at_call 23; refine (spec_LeastForCount.calls 1 digit many 0 false _ HS.out).mono ?_; rintro e w1 ⟨rfl, ⟨nd, rfl⟩⟩) | (go_at_call 24; refine (HM.out _).mono ?_; rintro e w' ⟨rfl, hb⟩))
    go_ret
    exact ⟨rfl, (pw_below_drewN (Below.refl _ w) nd).trans hb⟩
end Go.Proofs.Ytacebfmljjcnpaa.HLeastCount
