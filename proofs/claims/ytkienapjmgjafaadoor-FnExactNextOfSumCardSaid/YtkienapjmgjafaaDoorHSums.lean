/-
  Digit sums: the decimal digits of a number, how many texts of digits have a sum, how many numbers below one have it; what the printed functions of both sides tell of them.
-/
import Derived.Test.YtkienapjmgjafaaDoorPrints
import Derived.Lib.ItoaNum
namespace Go.Proofs.YtkienapjmgjafaaDoor.HSums
open Go.RowKit Go.Proofs.YtkienapjmgjafaaDoorW.PrintWords Go.Proofs.YtkienapjmgjafaaDoorW.PrintLast Go.Proofs.YtkienapjmgjafaaDoorW.PrintMore Go.Proofs.YtkienapjmgjafaaDoor.PNumberOfSum Go.Proofs.YtkienapjmgjafaaDoor.PdiSum Go.Proofs.YtkienapjmgjafaaDoor.PtkOf Go.Proofs.YtkienapjmgjafaaDoor.PtkWays Go.Proofs.YtkienapjmgjafaaDoor.Pl1In
open Go.Lib (decDigits)
set_option linter.unusedVariables false
set_option linter.unusedSimpArgs false

/-- the digit sum -/
def ds (n : Nat) : Nat := if n < 10 then n else ds (n / 10) + n % 10
termination_by n
decreasing_by omega

theorem ds_small {n : Nat} (h : n < 10) : ds n = n := by rw [ds, if_pos h]
theorem ds_step (p d : Nat) (h : d < 10) : ds (10 * p + d) = ds p + d := by
  by_cases c : p = 0
  · subst c; rw [ds_small (n := 0) (by omega), ds_small (by omega)]
  · rw [ds, if_neg (by omega)]
    have e1 : (10 * p + d) / 10 = p := by omega
    have e2 : (10 * p + d) % 10 = d := by omega
    rw [e1, e2]

/-- the sum of f 0, .., f (k - 1) -/
def sumTo (f : Nat → Nat) : Nat → Nat
  | 0 => 0
  | k + 1 => sumTo f k + f k

/-- how many texts of j digits have the digit sum s -/
def C : Nat → Int → Nat
  | 0, s => if s = 0 then 1 else 0
  | j + 1, s => sumTo (fun d => C j (s - d)) 10

/-- how many numbers below n have the digit sum s -/
def N (s : Int) : Nat → Nat
  | 0 => 0
  | n + 1 => N s n + (if (ds n : Int) = s then 1 else 0)

theorem N_block (s : Int) (j : Nat) : ∀ p : Nat, N s ((p + 1) * 10 ^ j) = N s (p * 10 ^ j) + C j (s - ds p) := by
  induction j with
  | zero =>
    intro p
    simp only [Nat.pow_zero, Nat.mul_one, N, C]
    congr 1
    by_cases h : (ds p : Int) = s
    · rw [if_pos h, if_pos (by omega)]
    · rw [if_neg h, if_neg (by omega)]
  | succ j ih =>
    intro p
    have key : ∀ x : Nat, x ≤ 10 → N s ((10 * p + x) * 10 ^ j) = N s (p * 10 ^ (j + 1)) + sumTo (fun d => C j (s - ds p - d)) x := by
      intro x
      induction x with
      | zero => intro _; rw [sumTo, Nat.pow_succ]; congr 1; grind
      | succ x ihx =>
        intro hx
        have h1 := ih (10 * p + x)
        rw [ds_step p x (by omega)] at h1
        have h2 := ihx (by omega)
        rw [show 10 * p + (x + 1) = 10 * p + x + 1 from by omega, h1, h2, sumTo]
        rw [show s - (↑(ds p + x) : Int) = s - ds p - x from by omega]
        omega
    have := key 10 (Nat.le_refl _)
    rw [show (10 * p + 10) * 10 ^ j = (p + 1) * 10 ^ (j + 1) from by rw [Nat.pow_succ]; grind] at this
    rw [this, C]

theorem N_step (s : Int) (j p x : Nat) (hx : x ≤ 10) : N s ((10 * p + x) * 10 ^ j) = N s (p * 10 ^ (j + 1)) + sumTo (fun d => C j (s - ds p - d)) x := by
  induction x with
  | zero => rw [sumTo, Nat.pow_succ]; congr 1; grind
  | succ x ihx =>
    have h1 := N_block s j (10 * p + x)
    rw [ds_step p x (by omega)] at h1
    have h2 := ihx (by omega)
    rw [show 10 * p + (x + 1) = 10 * p + x + 1 from by omega, h1, h2, sumTo]
    rw [show s - (↑(ds p + x) : Int) = s - ds p - x from by omega]
    omega

theorem sumTo_zero {f : Nat → Nat} {k : Nat} (h : ∀ i, i < k → f i = 0) : sumTo f k = 0 := by
  induction k with
  | zero => rfl
  | succ k ih => rw [sumTo, ih (fun i hi => h i (by omega)), h k (by omega)]

theorem C_out {j : Nat} : ∀ {s : Int}, s < 0 ∨ 9 * j < s → C j s = 0 := by
  induction j with
  | zero => intro s h; rw [C, if_neg (by omega)]
  | succ j ih => intro s h; rw [C]; exact sumTo_zero (fun i hi => ih (by omega))

theorem N_mono {s : Int} {m n : Nat} (h : m ≤ n) : N s m ≤ N s n := by
  induction h with
  | refl => exact Nat.le_refl _
  | step _ ih => exact Nat.le_trans ih (by rw [N]; omega)

theorem N_le {s : Int} (n : Nat) : N s n ≤ n := by
  induction n with
  | zero => exact Nat.le_refl _
  | succ n ih => rw [N]; split <;> omega

theorem C_le (j : Nat) (s : Int) : C j s ≤ 10 ^ j := by
  have h := N_block s j 0
  rw [ds_small (by omega)] at h
  simp at h
  have := N_le (s := s) (10 ^ j)
  have h0 : N s 0 = 0 := rfl
  omega

theorem C_eq_N (j : Nat) (s : Int) : N s (10 ^ j) = C j s := by
  have h := N_block s j 0
  rw [ds_small (by omega)] at h
  simp at h
  have h0 : N s 0 = 0 := rfl
  omega

theorem wi {x : Int} (h : -9223372036854775808 ≤ x) (h2 : x ≤ 9223372036854775807) : wrap64 x = x := by
  unfold wrap64; omega

/-! ### decimal digits -/
theorem dd_small {n : Nat} (h : n < 10) : decDigits n = [UInt8.ofNat (48 + n)] := by rw [decDigits, dif_pos h]
theorem dd_more {n : Nat} (h : ¬ n < 10) : decDigits n = decDigits (n / 10) ++ [UInt8.ofNat (48 + n % 10)] := by rw [decDigits, dif_neg h]

theorem dd_pos (n : Nat) : 1 ≤ (decDigits n).length := by
  by_cases h : n < 10
  · rw [dd_small h]; exact Nat.le_refl _
  · rw [dd_more h]; simp

theorem dd_lt (n : Nat) : n < 10 ^ (decDigits n).length := by
  induction n using Nat.strongRecOn with
  | _ n ih =>
    by_cases h : n < 10
    · rw [dd_small h]; simpa using h
    · have := ih (n / 10) (by omega)
      rw [dd_more h, List.length_append, List.length_singleton, Nat.pow_succ]
      omega

theorem dd_ge (n : Nat) (hn : 1 ≤ n) : 10 ^ ((decDigits n).length - 1) ≤ n := by
  induction n using Nat.strongRecOn with
  | _ n ih =>
    by_cases h : n < 10
    · rw [dd_small h]; simpa using hn
    · have := ih (n / 10) (by omega) (by omega)
      have l := dd_pos (n / 10)
      rw [dd_more h, List.length_append, List.length_singleton, show (decDigits (n / 10)).length + 1 - 1 = ((decDigits (n / 10)).length - 1) + 1 by omega, Nat.pow_succ]
      omega

theorem dd_len {n : Nat} (j : Nat) (h : n < 10 ^ j) (hj : 1 ≤ j) : (decDigits n).length ≤ j := by
  by_cases hn : n = 0
  · subst hn; rw [dd_small (by omega)]; exact hj
  · have h1 := dd_ge n (by omega)
    rcases Nat.lt_or_ge j (decDigits n).length with c | c
    · have : 10 ^ j ≤ 10 ^ ((decDigits n).length - 1) := Nat.pow_le_pow_right (by omega) (by omega)
      omega
    · exact c

theorem dd_take (n : Nat) : ∀ i, 1 ≤ i → i ≤ (decDigits n).length → (decDigits n).take i = decDigits (n / 10 ^ ((decDigits n).length - i)) := by
  induction n using Nat.strongRecOn with
  | _ n ih =>
    intro i h1 h2
    by_cases h : n < 10
    · rw [dd_small h] at h2 ⊢
      simp only [List.length_singleton] at h2 ⊢
      obtain rfl : i = 1 := by omega
      rw [Nat.sub_self, Nat.pow_zero, Nat.div_one, dd_small h]; rfl
    · by_cases c : i = (decDigits n).length
      · rw [← c, Nat.sub_self, Nat.pow_zero, Nat.div_one, c, List.take_length]
      · have e := dd_more h
        have el : (decDigits n).length = (decDigits (n / 10)).length + 1 := by rw [e]; simp
        have := ih (n / 10) (by omega) i h1 (by omega)
        rw [el, show (decDigits (n / 10)).length + 1 - i = ((decDigits (n / 10)).length - i) + 1 by omega, Nat.pow_succ', ← Nat.div_div_eq_div_mul, ← this, e, List.take_append_of_le_length (by omega)]

theorem dd_get (n : Nat) : ∀ i, i < (decDigits n).length → (decDigits n)[i]? = some (UInt8.ofNat (48 + n / 10 ^ ((decDigits n).length - 1 - i) % 10)) := by
  induction n using Nat.strongRecOn with
  | _ n ih =>
    intro i h2
    by_cases h : n < 10
    · rw [dd_small h] at h2 ⊢
      simp only [List.length_singleton] at h2 ⊢
      obtain rfl : i = 0 := by omega
      rw [Nat.sub_self, Nat.pow_zero, Nat.div_one, Nat.mod_eq_of_lt h]; rfl
    · have e := dd_more h
      have el : (decDigits n).length = (decDigits (n / 10)).length + 1 := by rw [e]; simp
      by_cases c : i = (decDigits (n / 10)).length
      · rw [el, show (decDigits (n / 10)).length + 1 - 1 - i = 0 by omega, Nat.pow_zero, Nat.div_one, e, c, List.getElem?_append_right (Nat.le_refl _), Nat.sub_self]; rfl
      · have := ih (n / 10) (by omega) i (by omega)
        rw [el, show (decDigits (n / 10)).length + 1 - 1 - i = ((decDigits (n / 10)).length - 1 - i) + 1 by omega, Nat.pow_succ', ← Nat.div_div_eq_div_mul, ← this, e, List.getElem?_append_left (by omega)]

/-- each is a digit -/
def D10 (l : List UInt8) : Prop := ∀ b ∈ l, 48 ≤ b.toNat ∧ b.toNat ≤ 57

theorem digit_byte {d : Nat} (h : d < 10) : (UInt8.ofNat (48 + d)).toNat = 48 + d := by simp; omega

theorem dd_d10 (n : Nat) : D10 (decDigits n) := by
  induction n using Nat.strongRecOn with
  | _ n ih =>
    intro b hb
    by_cases h : n < 10
    · rw [dd_small h, List.mem_singleton] at hb
      rw [hb, digit_byte h]; omega
    · rw [dd_more h] at hb
      rcases List.mem_append.1 hb with hb | hb
      · exact ih (n / 10) (by omega) b hb
      · rw [List.mem_singleton.1 hb, digit_byte (by omega)]; omega

def sumB : List UInt8 → Int
  | [] => 0
  | b :: l => (b.toNat : Int) - 48 + sumB l

theorem sumB_append (a b : List UInt8) : sumB (a ++ b) = sumB a + sumB b := by
  induction a with
  | nil => simp [sumB]
  | cons x a ih => rw [List.cons_append, sumB, sumB, ih]; omega

theorem sumB_dd (n : Nat) : sumB (decDigits n) = ds n := by
  induction n using Nat.strongRecOn with
  | _ n ih =>
    by_cases h : n < 10
    · rw [dd_small h, ds_small h, sumB, sumB, digit_byte h]; omega
    · have e : ds n = ds (n / 10) + n % 10 := by rw [ds, if_neg h]
      rw [dd_more h, sumB_append, ih (n / 10) (by omega), sumB, sumB, digit_byte (by omega), e]; omega

theorem sumB_range {l : List UInt8} (h : D10 l) : 0 ≤ sumB l ∧ sumB l ≤ 9 * l.length := by
  induction l with
  | nil => simp [sumB]
  | cons b l ih =>
    have h1 := h b (List.mem_cons_self ..)
    have h2 := ih (fun x hx => h x (List.mem_cons_of_mem _ hx))
    rw [sumB, List.length_cons]; omega

theorem ds_le (n : Nat) : ds n ≤ 9 * (decDigits n).length := by
  have := (sumB_range (dd_d10 n)).2
  rw [sumB_dd] at this; omega

/-- the first i digits' sum -/
theorem sumB_take (n i : Nat) (h : i ≤ (decDigits n).length) : sumB ((decDigits n).take i) = ds (n / 10 ^ ((decDigits n).length - i)) := by
  by_cases c : i = 0
  · subst c
    rw [Nat.sub_zero, Nat.div_eq_of_lt (dd_lt n), ds_small (by omega)]; rfl
  · rw [dd_take n i (by omega) h, sumB_dd]

abbrev str (l : List UInt8) : ByteArray := ⟨l.toArray⟩

theorem str_size (l : List UInt8) : (str l).size = l.length := by simp [ByteArray.size]

theorem bt_str (l : List UInt8) (i : Nat) (h : i < l.length) : bt (str l) (i : Int) = (l[i].toNat : Int) := by
  unfold bt
  rw [dif_pos (by rw [str_size]; simpa using h)]
  simp only [Int.toNat_natCast]
  rfl

theorem tkSum_l0 (l : List UInt8) (hl : D10 l) (h1 : l.length ≤ 1000) : ∀ (r i : Nat) (c : Int) (k : Nat), i + r = l.length → r < k → 0 ≤ c → c ≤ 9 * i → spec_tkSum.l0 k (str l) c i = some (c + sumB (l.drop i)) := by
  intro r
  induction r with
  | zero =>
    intro i c k hi hk c0 c1
    obtain ⟨k, rfl⟩ : ∃ j, k = j + 1 := ⟨k - 1, by omega⟩
    rw [spec_tkSum.l0, str_size, if_neg (by omega), List.drop_eq_nil_of_le (by omega), sumB, Int.add_zero]
  | succ r ih =>
    intro i c k hi hk c0 c1
    obtain ⟨k, rfl⟩ : ∃ j, k = j + 1 := ⟨k - 1, by omega⟩
    have hlt : i < l.length := by omega
    have hb := hl l[i] (List.getElem_mem hlt)
    rw [spec_tkSum.l0, str_size, if_pos (by omega), if_pos (by omega), bt_str l i hlt, Int.emod_eq_of_lt (by omega) (by omega), wi (by omega) (by omega), wi (x := (i : Int) + 1) (by omega) (by omega), show (i : Int) + 1 = ((i + 1 : Nat) : Int) by omega, ih (i + 1) _ k (by omega) (by omega) (by omega) (by omega), List.drop_eq_getElem_cons hlt, sumB]
    congr 1; omega

theorem tkSum_eq (l : List UInt8) (hl : D10 l) (h1 : l.length ≤ 1000) (k : Nat) (hk : l.length < k) : spec_tkSum.f k (str l) = some (sumB l) := by
  have := tkSum_l0 l hl h1 l.length 0 0 k (by omega) hk (by omega) (by omega)
  rw [List.drop_zero, Int.zero_add] at this
  exact this

theorem str_append (a b : List UInt8) : str a ++ str b = str (a ++ b) := by
  apply ByteArray.ext
  apply Array.ext'
  simp [ByteArray.toList_data_append]

theorem l1Num_eq (k : Nat) : ∀ (n : Nat), (decDigits n).length ≤ k → n ≤ 9223372036854775807 → spec_l1Num.f k (n : Int) = some (str (decDigits n)) := by
  induction k with
  | zero => intro n h _; have := dd_pos n; omega
  | succ k ih =>
    intro n h hn
    rw [spec_l1Num.f]
    by_cases c : n < 10
    · rw [if_pos (by omega), wi (by omega) (by omega), Int.emod_eq_of_lt (by omega) (by omega), dd_small c]
      simp only [strOfNums, List.map_cons, List.map_nil]
      rw [show ((48 : Int) + n).toNat = 48 + n by omega]
    · have e := dd_more c
      have el : (decDigits n).length = (decDigits (n / 10)).length + 1 := by rw [e]; simp
      have td : Int.tdiv (n : Int) 10 = ((n / 10 : Nat) : Int) := by rw [Int.tdiv_eq_ediv_of_nonneg (by omega)]; omega
      have tm : Int.tmod (n : Int) 10 = ((n % 10 : Nat) : Int) := by rw [Int.tmod_eq_emod_of_nonneg (by omega)]; omega
      rw [if_neg (by omega), td, tm, wi (x := ((n / 10 : Nat) : Int)) (by omega) (by omega), ih (n / 10) (by omega) (by omega)]
      simp only [Option.bind_some]
      rw [wi (x := 48 + ((n % 10 : Nat) : Int)) (by omega) (by omega), Int.emod_eq_of_lt (by omega) (by omega)]
      have es : strOfNums [(48 : Int) + ((n % 10 : Nat) : Int)] = str [UInt8.ofNat (48 + n % 10)] := by
        simp only [strOfNums, List.map_cons, List.map_nil]
        rw [show ((48 : Int) + ((n % 10 : Nat) : Int)).toNat = 48 + n % 10 by omega]
      have lim : (decDigits (n / 10)).length ≤ 20 := dd_len 20 (by omega) (by omega)
      rw [es, if_pos (by rw [str_size, str_size, List.length_singleton]; omega), str_append, ← e]

theorem diSum_eq (n : Nat) (hn : n ≤ 9223372036854775807) (k : Nat) (hk : 25 ≤ k) : spec_diSum.f k (n : Int) = some (ds n : Int) := by
  have lim : (decDigits n).length ≤ 20 := dd_len 20 (by omega) (by omega)
  unfold spec_diSum.f
  rw [l1Num_eq k n (by omega) hn]
  simp only [Option.bind_some]
  rw [tkSum_eq _ (dd_d10 n) (by omega) k (by omega), sumB_dd]
  rfl
end Go.Proofs.YtkienapjmgjafaaDoor.HSums
