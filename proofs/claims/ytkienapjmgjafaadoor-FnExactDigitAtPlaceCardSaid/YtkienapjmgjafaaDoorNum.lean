/-
  Plain facts on numbers: a sum that fits is not wrapped; triangular numbers; squares. No program in this text.
-/
import Derived.IntWalk
namespace Go.Proofs.YtkienapjmgjafaaDoor.Num
open Go.RowKit

theorem wi {x : Int} (h1 : -9223372036854775808 ≤ x) (h2 : x ≤ 9223372036854775807) : wrap64 x = x := by unfold wrap64; omega
theorem td2 {x : Int} (h : 0 ≤ x) : Int.tdiv x 2 = x / 2 := Int.tdiv_eq_ediv_of_nonneg h
theorem tm2 {x : Int} (h : 0 ≤ x) : Int.tmod x 2 = x % 2 := Int.tmod_eq_emod_of_nonneg h
theorem td {x y : Int} (h : 0 ≤ x) : Int.tdiv x y = x / y := Int.tdiv_eq_ediv_of_nonneg h
theorem tm {x y : Int} (h : 0 ≤ x) : Int.tmod x y = x % y := Int.tmod_eq_emod_of_nonneg h

theorem even_prod (n : Int) : n * (n + 1) % 2 = 0 := by
  rcases Int.emod_two_eq n with h | h
  · rw [Int.mul_emod, h]; simp
  · have : (n + 1) % 2 = 0 := by omega
    rw [Int.mul_emod, this]; simp

def tri (n : Int) : Int := n * (n + 1) / 2

theorem two_tri (n : Int) : 2 * tri n = n * (n + 1) := by
  have := even_prod n
  unfold tri; omega

theorem tri_succ (n : Int) : tri (n + 1) = tri n + (n + 1) := by
  have a := two_tri n
  have b := two_tri (n + 1)
  have c : (n + 1) * (n + 1 + 1) = n * (n + 1) + 2 * (n + 1) := by grind
  omega

theorem tri_nonneg {n : Int} (h : 0 ≤ n) : 0 ≤ tri n := by
  have a := two_tri n
  have : 0 ≤ n * (n + 1) := Int.mul_nonneg h (by omega)
  omega

theorem tri_lt {a b : Int} (ha : 0 ≤ a) (h : a < b) : tri a + b ≤ tri b := by
  have x := two_tri a
  have y := two_tri b
  have h1 : a * (a + 1) ≤ (b - 1) * b := Int.mul_le_mul (by omega) (by omega) (by omega) (by omega)
  have h2 : (b - 1) * b = b * (b + 1) - 2 * b := by grind
  omega

theorem tri_le {a b : Int} (ha : 0 ≤ a) (h : a ≤ b) : tri a ≤ tri b := by
  by_cases c : a = b
  · subst c; omega
  · have := tri_lt ha (show a < b by omega); omega

theorem tri_bound {n : Int} (h0 : 0 ≤ n) (h : n ≤ 1000001) : tri n ≤ 500001500001 := by
  have a := tri_le h0 h
  have : tri 1000001 = 500001500001 := by decide
  omega

/-- the reference's sum, from one number to another one -/
theorem span_eq (a b : Int) : (a + b) * (b - a + 1) / 2 = tri b - tri (a - 1) := by
  have x := two_tri b
  have y := two_tri (a - 1)
  have : (a + b) * (b - a + 1) = b * (b + 1) - (a - 1) * (a - 1 + 1) := by grind
  omega

theorem mul_bound {a b A B : Int} (ha : 0 ≤ a) (hb : 0 ≤ b) (h1 : a ≤ A) (h2 : b ≤ B) : 0 ≤ a * b ∧ a * b ≤ A * B :=
  ⟨Int.mul_nonneg ha hb, Int.mul_le_mul h1 h2 hb (by omega)⟩
theorem sq_lt {a b : Int} (ha : 0 ≤ a) (hab : a < b) : a * a < b * b := by
  have h1 : a * a ≤ a * b := Int.mul_le_mul_of_nonneg_left (by omega) ha
  have h2 : a * b < b * b := Int.mul_lt_mul_of_pos_right hab (by omega)
  omega

theorem lt_of_sq {a b : Int} (hb : 0 ≤ b) (h : a * a < b * b) : a < b := by
  by_cases c : a < b
  · exact c
  · have : b * b ≤ a * a := by
      by_cases e : b = a
      · subst e; omega
      · have := sq_lt hb (show b < a by omega); omega
    omega

theorem le_of_sq {a b : Int} (hb : 0 ≤ b) (h : a * a ≤ b * b) : a ≤ b := by
  by_cases c : a ≤ b
  · exact c
  · have := sq_lt hb (show b < a by omega); omega

theorem sq_le {a b : Int} (ha : 0 ≤ a) (hab : a ≤ b) : a * a ≤ b * b := Int.mul_le_mul hab hab ha (by omega)

/-- one number alone has its square at most n and the next one's beyond -/
theorem root_one {a b n : Int} (ha : 0 ≤ a) (hb : 0 ≤ b) (h1 : a * a ≤ n) (h2 : n < (a + 1) * (a + 1)) (h3 : b * b ≤ n) (h4 : n < (b + 1) * (b + 1)) : a = b := by
  have x := lt_of_sq (a := a) (b := b + 1) (by omega) (by omega)
  have y := lt_of_sq (a := b) (b := a + 1) (by omega) (by omega)
  omega
end Go.Proofs.YtkienapjmgjafaaDoor.Num
