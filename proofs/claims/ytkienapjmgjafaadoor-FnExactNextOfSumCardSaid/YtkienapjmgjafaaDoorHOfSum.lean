/-
  The number with a digit sum below which just so many lie: what the program's search finds.
-/
import Derived.Test.YtkienapjmgjafaaDoorHWays
namespace Go.Proofs.YtkienapjmgjafaaDoor.HSums
open Go.RowKit Go.Proofs.YtkienapjmgjafaaDoorW.PrintWords Go.Proofs.YtkienapjmgjafaaDoorW.PrintLast Go.Proofs.YtkienapjmgjafaaDoorW.PrintMore Go.Proofs.YtkienapjmgjafaaDoor.PNumberOfSum Go.Proofs.YtkienapjmgjafaaDoor.PdiSum Go.Proofs.YtkienapjmgjafaaDoor.PtkOf Go.Proofs.YtkienapjmgjafaaDoor.PtkWays Go.Proofs.YtkienapjmgjafaaDoor.Pl1In
open Go.Lib (decDigits)
set_option linter.unusedVariables false
set_option linter.unusedSimpArgs false

theorem ds_lt {n : Nat} (j : Nat) (h : n < 10 ^ j) (hj : 1 ≤ j) : ds n ≤ 9 * j := by
  have := ds_le n; have := dd_len j h hj; omega

theorem ofSum_l0 (s : Int) (s0 : 0 ≤ s) (s1 : s ≤ 1000000) (rank : Nat) (rk : rank ≤ 10000000000000) (c : Nat) (hc : ∀ k n : Nat, c ≤ k → n ≤ 13 → impl_ways.f k n = some (W n)) :
    ∀ r i n k : Nat, i + r = 13 → n < 10 ^ i → N s (n * 10 ^ r) ≤ rank → rank < N s ((n + 1) * 10 ^ r) → c + 12 * r + 1 ≤ k →
    ∃ m : Nat, m < 10 ^ 13 ∧ N s m ≤ rank ∧ rank < N s (m + 1) ∧ impl_ofSum.l0 k (s - ds n) ((rank : Int) - N s (n * 10 ^ r)) n i = some ((m : Int), decide ((m : Int) ≤ 1000000000000)) := by
  intro r
  induction r with
  | zero =>
    intro i n k hi hn h1 h2 hk
    obtain ⟨k, rfl⟩ : ∃ j, k = j + 1 := ⟨k - 1, by omega⟩
    obtain rfl : i = 13 := by omega
    rw [Nat.pow_zero, Nat.mul_one] at h1 h2
    exact ⟨n, hn, h1, h2, by rw [impl_ofSum.l0, if_neg (by omega)]⟩
  | succ r ih =>
    intro i n k hi hn h1 h2 hk
    obtain ⟨k, rfl⟩ : ∃ j, k = j + 1 := ⟨k - 1, by omega⟩
    have n13 : n < 10 ^ 13 := Nat.lt_of_lt_of_le hn (Nat.pow_le_pow_right (by omega) (by omega))
    have e13 : (10 : Nat) ^ 13 = 10000000000000 := by decide
    have dn := ds_lt 13 n13 (by omega)
    have inner : ∀ q d k : Nat, d + q = 10 → N s ((10 * n + d) * 10 ^ r) ≤ rank → c + 12 * r + 1 + q + 1 ≤ k →
        ∃ m : Nat, m < 10 ^ 13 ∧ N s m ≤ rank ∧ rank < N s (m + 1) ∧ impl_ofSum.l1 k (s - ds n) ((rank : Int) - N s ((10 * n + d) * 10 ^ r)) n (W r) i d = some ((m : Int), decide ((m : Int) ≤ 1000000000000)) := by
      intro q
      induction q with
      | zero =>
        intro d k hd ha hk
        obtain rfl : d = 10 := by omega
        rw [show (10 * n + 10) * 10 ^ r = (n + 1) * 10 ^ (r + 1) by rw [Nat.pow_succ]; grind] at ha
        omega
      | succ q ihq =>
        intro d k hd ha hk
        obtain ⟨k, rfl⟩ : ∃ j, k = j + 1 := ⟨k - 1, by omega⟩
        have nb := N_block s r (10 * n + d)
        rw [ds_step n d (by omega), show s - ((ds n + d : Nat) : Int) = s - ds n - d by omega] at nb
        have cl := C_le r (s - ds n - d)
        have cl2 : 10 ^ r ≤ 10 ^ 13 := Nat.pow_le_pow_right (by omega) (by omega)
        rw [impl_ofSum.l1, if_pos (by omega), wi (x := s - ds n - d) (by omega) (by omega), at_eq r (by omega)]
        simp only [Option.bind_some]
        by_cases c1 : (rank : Int) - N s ((10 * n + d) * 10 ^ r) < C r (s - ds n - d)
        · obtain ⟨m, m1, m2, m3, m4⟩ := ih (i + 1) (10 * n + d) k (by omega) (by rw [Nat.pow_succ]; omega) ha (by rw [show 10 * n + d + 1 = (10 * n + d) + 1 from rfl, nb]; omega) (by omega)
          refine ⟨m, m1, m2, m3, ?_⟩
          rw [if_pos c1, wi (x := 10 * (n : Int)) (by omega) (by omega), wi (x := 10 * (n : Int) + d) (by omega) (by omega), wi (x := (i : Int) + 1) (by omega) (by omega), ← m4, ds_step n d (by omega), show s - ((ds n + d : Nat) : Int) = s - ds n - d by omega, show 10 * (n : Int) + d = ((10 * n + d : Nat) : Int) by omega, show (i : Int) + 1 = ((i + 1 : Nat) : Int) by omega]
        · obtain ⟨m, m1, m2, m3, m4⟩ := ihq (d + 1) k (by omega) (by rw [show 10 * n + (d + 1) = 10 * n + d + 1 by omega, nb]; omega) (by omega)
          refine ⟨m, m1, m2, m3, ?_⟩
          rw [if_neg c1, wi (x := (rank : Int) - N s ((10 * n + d) * 10 ^ r) - C r (s - ds n - d)) (by omega) (by omega), wi (x := (d : Int) + 1) (by omega) (by omega), ← m4, show 10 * n + (d + 1) = 10 * n + d + 1 by omega, nb, show (d : Int) + 1 = ((d + 1 : Nat) : Int) by omega]
          congr 1; omega
    obtain ⟨m, m1, m2, m3, m4⟩ := inner 10 0 k (by omega) (by rw [Nat.add_zero, show 10 * n * 10 ^ r = n * 10 ^ (r + 1) by rw [Nat.pow_succ]; grind]; exact h1) (by omega)
    refine ⟨m, m1, m2, m3, ?_⟩
    rw [impl_ofSum.l0, if_pos (by omega), wi (x := (12 : Int) - i) (by omega) (by omega), show (12 : Int) - i = (r : Nat) by omega, hc k r (by omega) (by omega)]
    simp only [Option.bind_some]
    rw [← m4, show (10 * n + 0) * 10 ^ r = n * 10 ^ (r + 1) by rw [Nat.add_zero, Nat.pow_succ]; grind]; rfl

/-- what is told of a sum and a rank -/
def Told (T : Nat) (s rank r : Int) (b : Bool) : Prop :=
  (b = false ∧ r = 0 ∧ (¬ (1 ≤ s ∧ s ≤ 108) ∨ rank < 0 ∨ (N s T : Int) ≤ rank)) ∨
  (b = true ∧ 1 ≤ s ∧ s ≤ 108 ∧ ∃ m : Nat, r = m ∧ m ≤ 1000000000000 ∧ (N s m : Int) ≤ rank ∧ rank < N s (m + 1))

theorem N_one {s : Int} {m n : Nat} {rank : Int} (h1 : (N s m : Int) ≤ rank) (h2 : rank < N s (m + 1)) (h3 : (N s n : Int) ≤ rank) (h4 : rank < N s (n + 1)) : m = n := by
  rcases Nat.lt_trichotomy m n with h | h | h
  · have := N_mono (s := s) (show m + 1 ≤ n by omega); omega
  · exact h
  · have := N_mono (s := s) (show n + 1 ≤ m by omega); omega

theorem ofSum_told (T : Nat) (hT : T = 1000000000001) (s rank : Int) (s0 : 1 ≤ s) (s1 : s ≤ 108) : ∃ k r b, impl_ofSum.f k s rank = some (r, b) ∧ ∃ r', Told T s rank r' b ∧ (b = true → r' = r) := by
  obtain ⟨c, hc⟩ := ways_some
  unfold impl_ofSum.f
  by_cases h0 : rank < 0
  · refine ⟨1, 0, false, ?_, 0, .inl ⟨rfl, rfl, .inr (.inl h0)⟩, fun h => by cases h⟩
    rw [if_pos h0, impl_ofSum.j0, if_pos rfl]
  · obtain ⟨q, rfl⟩ : ∃ q : Nat, rank = q := ⟨rank.toNat, by omega⟩
    obtain ⟨u, hu⟩ : ∃ u : Nat, u = 13 := ⟨_, rfl⟩
    obtain ⟨P, hP⟩ : ∃ P : Nat, P = 10 ^ u := ⟨_, rfl⟩
    have e := C_eq_N u s
    have cl := C_le u s
    rw [← hP] at e cl
    have hP2 : P = 10000000000000 := by rw [hP, hu]
    by_cases h1 : (q : Int) ≥ C u s
    · refine ⟨c + 1, 0, false, ?_, 0, .inl ⟨rfl, rfl, .inr (.inr ?_)⟩, fun h => by cases h⟩
      · rw [if_neg h0, show (13 : Int) = (u : Int) by omega, hc (c + 1) u (by omega) (by omega)]
        simp only [Option.bind_some]
        rw [at_eq u (by omega)]
        simp only [Option.bind_some]
        rw [impl_ofSum.j0, if_pos (by simpa using h1)]
      · have := N_mono (s := s) (show T ≤ P by omega); omega
    · obtain ⟨m, m1, m2, m3, m4⟩ := ofSum_l0 s (by omega) (by omega) q (by omega) c hc u 0 0 (c + 200) (by omega) (by rw [Nat.pow_zero]; omega) (by rw [Nat.zero_mul]; exact Nat.zero_le _) (by rw [← hP, show (0 + 1) * P = P by omega]; omega) (by omega)
      rw [Nat.zero_mul, ds_small (by omega), show (N s 0 : Nat) = 0 from rfl, show ((0 : Nat) : Int) = 0 from rfl, Int.sub_zero, Int.sub_zero] at m4
      have el : impl_ofSum.f (c + 201) s q = some ((m : Int), decide ((m : Int) ≤ 1000000000000)) := by
        unfold impl_ofSum.f
        rw [if_neg h0, show (13 : Int) = (u : Int) by omega, hc (c + 201) u (by omega) (by omega)]
        simp only [Option.bind_some]
        rw [at_eq u (by omega)]
        simp only [Option.bind_some]
        rw [impl_ofSum.j0, if_neg (by simpa using h1)]
        exact m4
      unfold impl_ofSum.f at el
      by_cases h2 : (m : Int) ≤ 1000000000000
      · rw [decide_eq_true h2] at el
        exact ⟨c + 201, m, true, el, m, .inr ⟨rfl, s0, s1, m, rfl, by omega, by omega, by omega⟩, fun _ => rfl⟩
      · rw [decide_eq_false h2] at el
        refine ⟨c + 201, m, false, el, 0, .inl ⟨rfl, rfl, .inr (.inr ?_)⟩, fun h => by cases h⟩
        have := N_mono (s := s) (show T ≤ m by omega); omega

theorem numberOfSum_told (T : Nat) (hT : T = 1000000000001) (s rank : Int) : ∃ k r b, impl_NumberOfSum.f k s rank = some (r, b) ∧ Told T s rank r b := by
  unfold impl_NumberOfSum.f impl_within.f
  by_cases h : 1 ≤ s ∧ s ≤ 108
  · obtain ⟨k, r, b, e, r', t, tr⟩ := ofSum_told T hT s rank h.1 h.2
    rw [if_pos h.1]
    simp only [Option.bind_some, decide_eq_true_eq, if_pos h.2]
    cases b with
    | true => obtain rfl := tr rfl; exact ⟨k, r', true, by rw [e]; rfl, t⟩
    | false =>
      rcases t with ⟨_, rfl, t⟩ | ⟨h, _⟩
      · exact ⟨k, 0, false, by rw [e]; rfl, .inl ⟨rfl, rfl, t⟩⟩
      · cases h
  · refine ⟨0, 0, false, ?_, .inl ⟨rfl, rfl, .inl h⟩⟩
    by_cases h1 : 1 ≤ s
    · rw [if_pos h1]
      simp only [Option.bind_some, decide_eq_true_eq]
      rw [if_neg (by omega)]
    · rw [if_neg h1]; rfl

theorem told_one {T : Nat} (hT : T = 1000000000001) {s rank r r' : Int} {b b' : Bool} (h : Told T s rank r b) (h' : Told T s rank r' b') : r = r' ∧ b = b' := by
  rcases h with ⟨rfl, rfl, h⟩ | ⟨rfl, a1, a2, m, rfl, a3, a4, a5⟩ <;> rcases h' with ⟨rfl, rfl, h'⟩ | ⟨rfl, c1, c2, m', rfl, c3, c4, c5⟩
  · exact ⟨rfl, rfl⟩
  · have := N_mono (s := s) (show m' + 1 ≤ T by omega)
    omega
  · have := N_mono (s := s) (show m + 1 ≤ T by omega)
    omega
  · rw [N_one a4 a5 c4 c5]; exact ⟨rfl, rfl⟩
end Go.Proofs.YtkienapjmgjafaaDoor.HSums
