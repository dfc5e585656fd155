/-
  How many numbers have not a digit: both sides' functions tell the same.
-/
import Derived.Test.YtkienapjmgjafaaDoorHRoot
namespace Go.Proofs.YtkienapjmgjafaaDoor.HSums
open Go.RowKit Go.Proofs.YtkienapjmgjafaaDoorW.PrintWords Go.Proofs.YtkienapjmgjafaaDoorW.PrintLast Go.Proofs.YtkienapjmgjafaaDoorW.PrintMore Go.Proofs.YtkienapjmgjafaaDoor.PNumberOfSum Go.Proofs.YtkienapjmgjafaaDoor.PdiSum Go.Proofs.YtkienapjmgjafaaDoor.PtkOf Go.Proofs.YtkienapjmgjafaaDoor.PtkWays Go.Proofs.YtkienapjmgjafaaDoor.Pl1In Go.Proofs.YtkienapjmgjafaaDoor.PsumOf
open Go.Lib (decDigits)
set_option linter.unusedVariables false
set_option linter.unusedSimpArgs false

namespace Wo
/-- does n have no digit d? -/
def clean (d n : Nat) : Bool := if n < 10 then n != d else clean d (n / 10) && n % 10 != d
termination_by n
decreasing_by omega

def less (d r : Nat) : Nat := if d < r then r - 1 else r

/-- how many of 1..n have no digit d -/
def W (d : Nat) : Nat → Nat
  | 0 => 0
  | n + 1 => W d n + (if clean d (n + 1) then 1 else 0)

/-- how many numbers below n have no digit d: 0 counts if d is not 0 -/
def B (d n : Nat) : Nat :=
  if n < 10 then less d n else 9 * B d (n / 10) + (if d = 0 then 9 else 0) + (if clean d (n / 10) then less d (n % 10) else 0)
termination_by n
decreasing_by omega

theorem clean_small {d n : Nat} (h : n < 10) : clean d n = (n != d) := by rw [clean, if_pos h]
theorem clean_big {d n : Nat} (h : ¬ n < 10) : clean d n = (clean d (n / 10) && n % 10 != d) := by rw [clean, if_neg h]
theorem B_small {d n : Nat} (h : n < 10) : B d n = less d n := by rw [B, if_pos h]
theorem B_big {d n : Nat} (h : ¬ n < 10) : B d n = 9 * B d (n / 10) + (if d = 0 then 9 else 0) + (if clean d (n / 10) then less d (n % 10) else 0) := by rw [B, if_neg h]

theorem less_succ {d r : Nat} (hr : r ≤ 9) (hd : d ≤ 9) : less d (r + 1) = less d r + (if r != d then 1 else 0) := by
  unfold less
  by_cases h : r = d
  · subst h; simp
  · simp [h]; split <;> split <;> omega

theorem less_ten {d : Nat} (hd : d ≤ 9) : less d 10 = 9 := by unfold less; rw [if_pos (by omega)]

theorem B_succ {d : Nat} (hd : d ≤ 9) (n : Nat) : B d (n + 1) = B d n + (if clean d n then 1 else 0) := by
  induction n using Nat.strongRecOn with
  | _ n ih =>
    by_cases h : n + 1 < 10
    · rw [B_small h, B_small (by omega), clean_small (by omega), less_succ (by omega) hd]
    · by_cases h9 : n = 9
      · subst h9
        rw [B_big (by omega), B_small (by omega), clean_small (by omega), show (9 + 1) / 10 = 1 from rfl, show (9 + 1) % 10 = 0 from rfl, B_small (by omega), clean_small (by omega)]
        have : d = 0 ∨ d = 1 ∨ d = 2 ∨ d = 3 ∨ d = 4 ∨ d = 5 ∨ d = 6 ∨ d = 7 ∨ d = 8 ∨ d = 9 := by omega
        rcases this with rfl | rfl | rfl | rfl | rfl | rfl | rfl | rfl | rfl | rfl <;> decide
      · have hb : ¬ n < 10 := by omega
        have i := ih (n / 10) (by omega)
        rw [B_big h, B_big hb, clean_big hb]
        by_cases h10 : n % 10 = 9
        · have e1 : (n + 1) / 10 = n / 10 + 1 := by omega
          have e2 : (n + 1) % 10 = 0 := by omega
          rw [e1, e2, i, h10]
          have l0 : less d 0 = 0 := by unfold less; rw [if_neg (by omega)]
          have l9 := less_succ (d := d) (r := 9) (by omega) hd
          rw [show 9 + 1 = 10 from rfl, less_ten hd] at l9
          rw [l0]
          generalize less d 9 = x at l9 ⊢
          generalize (9 != d) = b at l9 ⊢
          generalize B d (n / 10) = y
          generalize clean d (n / 10) = c
          generalize (if d = 0 then 9 else 0) = z
          cases c <;> cases b <;> simp at l9 ⊢ <;> omega
        · have e1 : (n + 1) / 10 = n / 10 := by omega
          have e2 : (n + 1) % 10 = n % 10 + 1 := by omega
          rw [e1, e2, less_succ (by omega) hd]
          cases clean d (n / 10) <;> simp <;> omega

theorem B_zero (d : Nat) : B d 0 = 0 := by rw [B_small (by omega)]; unfold less; rw [if_neg (by omega)]

theorem B_W {d : Nat} (hd : d ≤ 9) (n : Nat) : B d (n + 1) = W d n + (if d = 0 then 0 else 1) := by
  induction n with
  | zero =>
    rw [B_succ hd, B_zero, clean_small (by omega)]
    by_cases h : d = 0
    · subst h; rfl
    · have : (0 != d) = true := by simp; omega
      rw [this]; simp [W, h]
  | succ n ih => rw [B_succ hd, ih, W]; omega

theorem W_mono {d m n : Nat} (h : m ≤ n) : W d m ≤ W d n := by
  induction h with
  | refl => exact Nat.le_refl _
  | step _ ih => exact Nat.le_trans ih (by rw [W]; omega)

theorem clean_step {d n : Nat} : clean d (n + 1) = true ↔ W d (n + 1) ≠ W d n := by
  rw [W]
  cases clean d (n + 1) <;> simp


def G : Nat → Nat
  | 0 => 0
  | k + 1 => 9 * G k + 9
theorem G_eight (k : Nat) : 8 * G k + 9 = 9 ^ (k + 1) := by
  induction k with
  | zero => rfl
  | succ k ih => rw [G, Nat.pow_succ, ← ih]; omega
theorem G_succ (k : Nat) : G (k + 1) = G k + 9 ^ (k + 1) := by
  have := G_eight k
  rw [G]; omega

/-- how many numbers below p * 10^k have no digit d -/
def A (d p k : Nat) : Nat := 9 ^ k * B d p + if d = 0 then G k else 0

theorem A_step {d p r k : Nat} (hr : r ≤ 9) (hc : clean d p = true) (hp : 1 ≤ p) : A d (10 * p + r) k = A d p (k + 1) + less d r * 9 ^ k := by
  unfold A
  rw [B_big (by omega), show (10 * p + r) / 10 = p by omega, show (10 * p + r) % 10 = r by omega, hc, if_pos rfl, Nat.pow_succ]
  by_cases z : d = 0
  · simp only [if_pos z]
    rw [G_succ, Nat.pow_succ]; grind
  · simp only [if_neg z]; grind

theorem spoil {d p : Nat} (hc : clean d p = false) (hp : 1 ≤ p) (k : Nat) : ∀ n, n / 10 ^ k = p → clean d n = false ∧ B d n = A d p k := by
  induction k with
  | zero =>
    intro n h
    rw [Nat.pow_zero, Nat.div_one] at h
    subst h
    refine ⟨hc, ?_⟩
    unfold A; simp [G]
  | succ k ih =>
    intro n h
    rw [Nat.pow_succ', ← Nat.div_div_eq_div_mul] at h
    obtain ⟨i1, i2⟩ := ih (n / 10) h
    have hn : ¬ n < 10 := by
      intro c
      rw [Nat.div_eq_of_lt c, Nat.zero_div] at h; omega
    rw [clean_big hn, B_big hn, i1, i2]
    refine ⟨rfl, ?_⟩
    unfold A
    rw [Nat.pow_succ]
    by_cases z : d = 0
    · simp only [if_pos z, G]; grind
    · simp only [if_neg z]; grind

def bit0 (d : Nat) : Nat := if d = 0 then 0 else 1

/-- what is counted when i digits of n are done -/
def St (d n L i : Nat) : Nat := if i = 0 then (if d = 0 then G (L - 1) else 0) else A d (n / 10 ^ (L - i)) (L - i)
def Cl (d n L i : Nat) : Prop := i = 0 ∨ clean d (n / 10 ^ (L - i)) = true

section
variable {d n L i : Nat}

theorem beg_pos (hL : L = (decDigits n).length) (hn : 1 ≤ n) (h0 : 1 ≤ i) (hi : i ≤ L) : 1 ≤ n / 10 ^ (L - i) := by
  have h1 := dd_ge n hn
  rw [← hL] at h1
  have : 10 ^ (L - i) ≤ n := Nat.le_trans (Nat.pow_le_pow_right (by omega) (by omega)) h1
  exact (Nat.one_le_div_iff (Nat.pow_pos (by omega))).2 this

theorem len_zero (hL : L = (decDigits 0).length) : L = 1 := by rw [hL, dd_small (by omega)]; rfl

theorem st_step (hL : L = (decDigits n).length) (hi : i < L) (hc : Cl d n L i) (hd : d ≤ 9) : St d n L i + less d (n / 10 ^ (L - 1 - i) % 10) * 9 ^ (L - 1 - i) = St d n L (i + 1) := by
  have at1 := at_of n L i hi
  have e := at1.n1
  unfold St
  rw [if_neg (show ¬ i + 1 = 0 by omega), e, show L - (i + 1) = L - 1 - i by omega]
  by_cases z : i = 0
  · subst z
    have p0 : n / 10 ^ (L - 0) = 0 := by rw [Nat.sub_zero, hL]; exact Nat.div_eq_of_lt (dd_lt n)
    rw [if_pos rfl, p0, Nat.mul_zero, Nat.zero_add]
    unfold A
    rw [B_small (by omega), show L - 1 - 0 = L - 1 by omega]
    by_cases y : d = 0
    · simp only [if_pos y]; rw [Nat.mul_comm]; omega
    · simp only [if_neg y]; rw [Nat.mul_comm]; omega
  · rw [if_neg z]
    have hn : 1 ≤ n := by
      rcases Nat.eq_zero_or_pos n with rfl | h
      · have := len_zero hL; omega
      · exact h
    have hp := beg_pos hL hn (i := i) (by omega) (by omega)
    rcases hc with hc | hc
    · omega
    · rw [A_step (by omega) hc hp, show L - i = L - 1 - i + 1 by omega]

theorem cl_step (hi : i < L) (hne : n / 10 ^ (L - 1 - i) % 10 ≠ d) (hL : L = (decDigits n).length) (hc : Cl d n L i) : Cl d n L (i + 1) := by
  have e := (at_of n L i hi).n1
  refine .inr ?_
  rw [e]
  rcases hc with z | hc
  · subst z
    have p0 : n / 10 ^ (L - 0) = 0 := by rw [Nat.sub_zero, hL]; exact Nat.div_eq_of_lt (dd_lt n)
    rw [p0, Nat.mul_zero, Nat.zero_add, clean_small (by omega)]
    exact bne_iff_ne.2 hne
  · by_cases z : n / 10 ^ (L - i) = 0
    · rw [z, Nat.mul_zero, Nat.zero_add, clean_small (by omega)]
      simp [hne]
    · rw [clean_big (by omega), show (10 * (n / 10 ^ (L - i)) + n / 10 ^ (L - 1 - i) % 10) / 10 = n / 10 ^ (L - i) by omega, hc, show (10 * (n / 10 ^ (L - i)) + n / 10 ^ (L - 1 - i) % 10) % 10 = n / 10 ^ (L - 1 - i) % 10 by omega]
      simp [hne]

theorem st_end (hL : L = (decDigits n).length) (hi : i < L) (hd : d ≤ 9) (he : n / 10 ^ (L - 1 - i) % 10 = d) : St d n L (i + 1) = W d n + bit0 d := by
  have e := (at_of n L i hi).n1
  have bw := B_W hd n
  have bs := B_succ hd n
  unfold bit0
  rcases Nat.eq_zero_or_pos n with rfl | hn
  · obtain rfl := len_zero hL
    obtain rfl : i = 0 := by omega
    obtain rfl : d = 0 := by rw [← he]
    unfold St A
    rw [if_neg (by omega)]
    simp [B_zero, G, W]
  · have hp := beg_pos hL hn (i := i + 1) (by omega) (by omega)
    have hc : clean d (n / 10 ^ (L - (i + 1))) = false := by
      rw [e] at hp ⊢
      by_cases z : 10 * (n / 10 ^ (L - i)) + n / 10 ^ (L - 1 - i) % 10 < 10
      · rw [clean_small z]
        have : n / 10 ^ (L - i) = 0 := by omega
        rw [this, Nat.mul_zero, Nat.zero_add, he]; simp
      · rw [clean_big z, show (10 * (n / 10 ^ (L - i)) + n / 10 ^ (L - 1 - i) % 10) % 10 = d by omega]; simp
    obtain ⟨s1, s2⟩ := spoil hc hp (L - (i + 1)) n rfl
    rw [s1] at bs
    simp only [Bool.false_eq_true, if_false, Nat.add_zero] at bs
    unfold St
    rw [if_neg (by omega), ← s2, ← bs, bw]

theorem st_all (hL : L = (decDigits n).length) (hd : d ≤ 9) (hc : Cl d n L L) : St d n L L + 1 = W d n + bit0 d := by
  have l1 := dd_pos n
  have bw := B_W hd n
  have bs := B_succ hd n
  unfold bit0
  have hc : clean d n = true := by
    rcases hc with h | h
    · omega
    · rw [Nat.sub_self, Nat.pow_zero, Nat.div_one] at h; exact h
  rw [hc, if_pos rfl] at bs
  unfold St A
  rw [if_neg (by omega), Nat.sub_self, Nat.pow_zero, Nat.div_one, Nat.one_mul]
  have : (if d = 0 then G 0 else 0) = 0 := by split <;> rfl
  omega

/-! ### the reference's counting -/
def cnt (d i : Nat) : Nat → Nat
  | 0 => 0
  | m + 1 => cnt d i m + if m ≠ d ∧ (0 < i ∨ 0 < m) then 1 else 0

theorem cnt_late (hd : d ≤ 9) (hi : 0 < i) : ∀ m, m ≤ 10 → cnt d i m = less d m := by
  intro m
  induction m with
  | zero => intro _; unfold less; rw [if_neg (by omega)]; rfl
  | succ m ih =>
    intro h
    rw [cnt, ih (by omega), less_succ (by omega) hd]
    congr 1
    simp [hi]

theorem cnt_first (hd : d ≤ 9) : ∀ m, m ≤ 10 → cnt d 0 m + (if d ≠ 0 ∧ 1 ≤ m then 1 else 0) = less d m := by
  intro m
  induction m with
  | zero => intro _; unfold less; rw [if_neg (by omega)]; simp [cnt]
  | succ m ih =>
    intro h
    have := ih (by omega)
    rw [cnt, less_succ (by omega) hd, ← this]
    rcases Nat.eq_zero_or_pos m with rfl | hm
    · by_cases z : d = 0
      · subst z; simp
      · simp [z, Ne.symm z, cnt]
    · by_cases z : d = 0
      · subst z; simp [show ¬ m = 0 by omega, show 0 < m by omega]
      · simp [z, hm, show 1 ≤ m by omega]; split <;> simp_all <;> omega

def Sp (d n L i : Nat) : Int := if i = 0 then (if d = 0 then (G (L - 1) : Int) else 9 ^ (L - 1) - 1) else if n = 0 then 0 else (St d n L i : Int) - bit0 d

theorem sp_step (hL : L = (decDigits n).length) (hi : i < L) (hc : Cl d n L i) (hd : d ≤ 9) : Sp d n L i + (cnt d i (n / 10 ^ (L - 1 - i) % 10) : Int) * 9 ^ (L - 1 - i) = Sp d n L (i + 1) := by
  have ss := st_step hL hi hc hd
  have hD : n / 10 ^ (L - 1 - i) % 10 ≤ 9 := by omega
  unfold Sp
  rw [if_neg (show ¬ i + 1 = 0 by omega)]
  rcases Nat.eq_zero_or_pos n with rfl | hn
  · obtain rfl := len_zero hL
    obtain rfl : i = 0 := by omega
    simp [cnt, G]
  · rw [if_neg (show ¬ n = 0 by omega), if_neg (show ¬ n = 0 by omega), ← ss]
    by_cases z : i = 0
    · subst z
      have hp := beg_pos hL hn (i := 1) (by omega) (by omega)
      have hD1 : 1 ≤ n / 10 ^ (L - 1 - 0) % 10 := by
        have e : n / 10 ^ (L - 1) = 10 * (n / 10 ^ (L - 0)) + n / 10 ^ (L - 1 - 0) % 10 := (at_of n L 0 hi).n1
        have p0 : n / 10 ^ (L - 0) = 0 := by rw [Nat.sub_zero, hL]; exact Nat.div_eq_of_lt (dd_lt n)
        omega
      have cf := cnt_first hd (n / 10 ^ (L - 1 - 0) % 10) (by omega)
      generalize n / 10 ^ (L - 1 - 0) % 10 = D at cf hD1 ⊢
      rw [if_pos rfl]
      unfold St bit0
      rw [if_pos rfl, show L - 1 - 0 = L - 1 by omega]
      by_cases y : d = 0
      · rw [if_neg (by simp [y]), Nat.add_zero] at cf
        rw [← cf, if_pos y, if_pos y, if_pos y]; push_cast; omega
      · rw [if_pos ⟨y, hD1⟩] at cf
        rw [← cf, if_neg y, if_neg y, if_neg y]; push_cast; grind
    · rw [if_neg z, cnt_late hd (by omega) _ (by omega)]; push_cast; omega

theorem sp_end (hL : L = (decDigits n).length) (hi : i < L) (hd : d ≤ 9) (he : n / 10 ^ (L - 1 - i) % 10 = d) : Sp d n L (i + 1) = W d n := by
  have h := st_end hL hi hd he
  unfold Sp
  rw [if_neg (by omega)]
  rcases Nat.eq_zero_or_pos n with rfl | hn
  · rw [if_pos rfl]; rfl
  · rw [if_neg (by omega), h]; push_cast; omega

theorem sp_all (hL : L = (decDigits n).length) (hn : 1 ≤ n) (hd : d ≤ 9) (hc : Cl d n L L) : Sp d n L L + 1 = W d n := by
  have h := st_all hL hd hc
  have := dd_pos n
  unfold Sp
  rw [if_neg (by omega), if_neg (by omega)]; omega

/-! ### bounds -/
theorem pow9_le {k : Nat} (h : k ≤ 13) : 9 ^ k ≤ 2541865828329 := by
  have := Nat.pow_le_pow_right (n := 9) (by omega) h
  exact Nat.le_trans this (by decide)

theorem G_le {k : Nat} (h : k ≤ 13) : G k ≤ 2859599056870 := by
  have : k = 0 ∨ k = 1 ∨ k = 2 ∨ k = 3 ∨ k = 4 ∨ k = 5 ∨ k = 6 ∨ k = 7 ∨ k = 8 ∨ k = 9 ∨ k = 10 ∨ k = 11 ∨ k = 12 ∨ k = 13 := by omega
  rcases this with rfl | rfl | rfl | rfl | rfl | rfl | rfl | rfl | rfl | rfl | rfl | rfl | rfl | rfl <;> decide

theorem W_le (d n : Nat) : W d n ≤ n := by
  induction n with
  | zero => exact Nat.le_refl _
  | succ n ih => rw [W]; split <;> omega

theorem B_le (hd : d ≤ 9) (n : Nat) : B d n ≤ n + 1 := by
  rcases Nat.eq_zero_or_pos n with rfl | h
  · rw [B_zero]; omega
  · obtain ⟨m, rfl⟩ : ∃ m, n = m + 1 := ⟨n - 1, by omega⟩
    have := B_W hd m
    have := W_le d m
    split at * <;> omega

theorem St_le (hd : d ≤ 9) (hL : L = (decDigits n).length) (h13 : L ≤ 13) (hn : n ≤ 1000000000000) (hi : i ≤ L) : St d n L i ≤ 20000000000000 := by
  unfold St
  have g := G_le (k := L - 1) (by omega)
  split
  · split <;> omega
  · unfold A
    have b := B_le hd (n / 10 ^ (L - i))
    have g2 := G_le (k := L - i) (by omega)
    have h1 : 9 ^ (L - i) * B d (n / 10 ^ (L - i)) ≤ 10 ^ (L - i) * (n / 10 ^ (L - i) + 1) := Nat.mul_le_mul (Nat.pow_le_pow_left (by omega) _) b
    have h2 : 10 ^ (L - i) * (n / 10 ^ (L - i)) ≤ n := Nat.mul_div_le _ _
    have h3 : 10 ^ (L - i) ≤ 10 ^ (L - 1) := Nat.pow_le_pow_right (by omega) (by omega)
    have h4 : 10 ^ (L - 1) ≤ 1000000000000 := by
      have := Nat.pow_le_pow_right (n := 10) (by omega) (show L - 1 ≤ 12 by omega)
      exact this
    rw [Nat.mul_add, Nat.mul_one] at h1
    split <;> omega

theorem less_le {r : Nat} : less d r ≤ r := by unfold less; split <;> omega
end
end Wo
end Go.Proofs.YtkienapjmgjafaaDoor.HSums
