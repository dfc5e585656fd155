/-
  BalancedOdd: the sides with the odd numbers that have a balanced house: the program's search finds just those that the reference's rule gives.
-/
import Derived.Test.YtmcgkjhfghgdlaaHMarks
import Derived.Test.YtmcgkjhfghgdlaaPFnExactBalancedOddx1
namespace Go.Proofs.Ytmcgkjhfghgdlaa.HOdd
open Go.RowKit Go.Proofs.YtmcgkjhfghgdlaaW.PrintWords Go.Proofs.Ytmcgkjhfghgdlaa.Num Go.Proofs.Ytmcgkjhfghgdlaa.PFnExactBalancedOdd Go.Proofs.Ytmcgkjhfghgdlaa.HMarks
set_option linter.unusedVariables false
set_option linter.unusedSimpArgs false
theorem l1In_eq (a b c : Int) : spec_l1In.f a b c = some (decide (b ≤ a ∧ a ≤ c)) := by
  unfold spec_l1In.f
  by_cases h : a ≥ b
  · rw [if_pos h]; congr 1; simp; omega
  · rw [if_neg h]; congr 1; simp; omega
theorem within_eq (a b c : Int) : impl_within.f a b c = some (decide (b ≤ a ∧ a ≤ c)) := by
  unfold impl_within.f
  by_cases h : b ≤ a
  · rw [if_pos h]; congr 1; simp; omega
  · rw [if_neg h]; congr 1; simp; omega
theorem hoMost_eq (a : Int) : spec_hoMost.f a = some (decide (1 ≤ a ∧ a ≤ 1000000)) := by
  unfold spec_hoMost.f; rw [l1In_eq]; rfl
theorem isHouse_eq (a : Int) : impl_isHouse.f a = some (decide (1 ≤ a ∧ a ≤ 1000000)) := by
  unfold impl_isHouse.f; rw [within_eq]; rfl
def Sol (h n : Int) : Prop := 0 ≤ h ∧ 1 ≤ n ∧ 2 * (h * h) = n * (n + 1)

theorem sol_parent {h n : Int} (s : Sol h n) (hn : 1 < n) : Sol (3 * h - 2 * n - 1) (3 * n - 4 * h + 1) := by
  obtain ⟨h0, h1, e⟩ := s
  refine ⟨?_, ?_, ?_⟩
  · have : 2 * n + 1 ≤ 3 * h := by
      refine le_of_sq (by omega) ?_
      -- (2n+1)^2 = 8h^2+1 ≤ 9 h^2
      have : 1 ≤ h * h := by
        have := sq_lt (a := 0) (b := h) (by omega) (by
          by_cases c : h = 0
          · subst c; have : 0 < n * (n+1) := Int.mul_pos (by omega) (by omega); omega
          · omega)
        omega
      grind
    omega
  · have : 4 * h ≤ 3 * n := by
      refine le_of_sq (by omega) ?_
      -- 16 h^2 = 8 n^2 + 8 n <= 9 n^2 iff 8 <= n ; n between 2..7 no solution
      by_cases c : 8 ≤ n
      · have : 8 * n ≤ n * n := Int.mul_le_mul_of_nonneg_right c (by omega)
        grind
      · have hh : h < 8 := lt_of_sq (by omega) (by
          have : n * (n+1) ≤ 7 * 8 := Int.mul_le_mul (by omega) (by omega) (by omega) (by omega)
          omega)
        have g1 : h = 0 ∨ h = 1 ∨ h = 2 ∨ h = 3 ∨ h = 4 ∨ h = 5 ∨ h = 6 ∨ h = 7 := by omega
        have g2 : n = 2 ∨ n = 3 ∨ n = 4 ∨ n = 5 ∨ n = 6 ∨ n = 7 := by omega
        rcases g1 with rfl | rfl | rfl | rfl | rfl | rfl | rfl | rfl <;> rcases g2 with rfl | rfl | rfl | rfl | rfl | rfl <;> omega
    omega
  · grind

theorem sol_mono {h n h' n' : Int} (s : Sol h n) (s' : Sol h' n') (c : n < n') : h < h' := by
  obtain ⟨a0, a1, e⟩ := s
  obtain ⟨b0, b1, e'⟩ := s'
  refine lt_of_sq b0 ?_
  have : n * (n + 1) < n' * (n' + 1) := by
    have h1 : n * (n + 1) ≤ n * (n' + 1) := Int.mul_le_mul_of_nonneg_left (by omega) (by omega)
    have h2 : n * (n' + 1) < n' * (n' + 1) := Int.mul_lt_mul_of_pos_right c (by omega)
    omega
  omega

theorem sol_mono_le {h n h' n' : Int} (s : Sol h n) (s' : Sol h' n') (c : n ≤ n') : h ≤ h' := by
  by_cases e : n = n'
  · subst e
    obtain ⟨a0, a1, e⟩ := s
    obtain ⟨b0, b1, e'⟩ := s'
    exact le_of_sq b0 (by omega)
  · have := sol_mono s s' (by omega); omega

theorem sol_child {h n : Int} (s : Sol h n) : Sol (3 * h + 2 * n + 1) (4 * h + 3 * n + 1) := by
  obtain ⟨h0, h1, e⟩ := s
  exact ⟨by omega, by omega, by grind⟩

theorem sol_gap (d : Nat) : ∀ {h n hm m : Int}, n ≤ d → Sol h n → Sol hm m → n < m → 4 * h + 3 * n + 1 ≤ m := by
  induction d with
  | zero => intro h n hm m hd s; have := s.2.1; omega
  | succ d ih =>
    intro h n hm m hd s sm c
    have p := sol_parent sm (by have := s.2.1; omega)
    by_cases c1 : n ≤ 3 * m - 4 * hm + 1
    · have := sol_mono_le s p c1
      omega
    · by_cases c2 : 1 < n
      · have q := sol_parent s c2
        have hq := q.1
        have hq1 := q.2.1
        -- parent n < parent m
        by_cases c3 : 3 * n - 4 * h + 1 < 3 * m - 4 * hm + 1
        · have := ih (by omega) q p c3
          omega
        · have := sol_mono_le p q (by omega)
          omega
      · have := p.2.1; omega

def OddSol (k n : Int) : Prop := 1 ≤ k ∧ 1 ≤ n ∧ k * k + (k - 1) * (k - 1) = n * n

theorem odd_parent {k n : Int} (s : OddSol k n) (hn : 1 < n) : OddSol (3 * k - 2 * n - 1) (3 * n - 4 * k + 2) := by
  obtain ⟨h0, h1, e⟩ := s
  have e2 : (2 * k - 1) * (2 * k - 1) + 1 = 2 * (n * n) := by grind
  have h5 : 5 ≤ n := by
    by_cases c : 5 ≤ n
    · exact c
    · have hh : k < 5 := by
        have : 2 * k - 1 < 7 := lt_of_sq (by omega) (by
          have : n * n ≤ 4 * 4 := Int.mul_le_mul (by omega) (by omega) (by omega) (by omega)
          omega)
        omega
      have g1 : k = 1 ∨ k = 2 ∨ k = 3 ∨ k = 4 := by omega
      have g2 : n = 2 ∨ n = 3 ∨ n = 4 := by omega
      rcases g1 with rfl | rfl | rfl | rfl <;> rcases g2 with rfl | rfl | rfl <;> omega
  have n5 : 5 * n ≤ n * n := Int.mul_le_mul_of_nonneg_right h5 (by omega)
  refine ⟨?_, ?_, by grind⟩
  · have : 4 * n + 1 ≤ 3 * (2 * k - 1) := by
      refine le_of_sq (by omega) ?_
      have a1 : 3 * (2 * k - 1) * (3 * (2 * k - 1)) = 18 * (n * n) - 9 := by grind
      have a2 : (4 * n + 1) * (4 * n + 1) = 16 * (n * n) + 8 * n + 1 := by grind
      omega
    omega
  · have : 2 * (2 * k - 1) ≤ 3 * n - 1 := by
      refine le_of_sq (by omega) ?_
      have a1 : 2 * (2 * k - 1) * (2 * (2 * k - 1)) = 8 * (n * n) - 4 := by grind
      have a3 : 0 ≤ (n - 1) * (n - 5) := Int.mul_nonneg (by omega) (by omega)
      have a4 : (n - 1) * (n - 5) = n * n - 6 * n + 5 := by grind
      have a2 : (3 * n - 1) * (3 * n - 1) = 9 * (n * n) - 6 * n + 1 := by grind
      omega
    omega

theorem odd_mono {k n k' n' : Int} (s : OddSol k n) (s' : OddSol k' n') (c : n < n') : k < k' := by
  obtain ⟨a0, a1, e⟩ := s
  obtain ⟨b0, b1, e'⟩ := s'
  have : 2 * k - 1 < 2 * k' - 1 := by
    refine lt_of_sq (by omega) ?_
    have := sq_lt (a := n) (b := n') (by omega) c
    have e2 : (2 * k - 1) * (2 * k - 1) + 1 = 2 * (n * n) := by grind
    have e3 : (2 * k' - 1) * (2 * k' - 1) + 1 = 2 * (n' * n') := by grind
    omega
  omega

theorem odd_mono_le {k n k' n' : Int} (s : OddSol k n) (s' : OddSol k' n') (c : n ≤ n') : k ≤ k' := by
  by_cases e : n = n'
  · subst e
    obtain ⟨a0, a1, e⟩ := s
    obtain ⟨b0, b1, e'⟩ := s'
    have : 2 * k - 1 ≤ 2 * k' - 1 := by
      refine le_of_sq (by omega) ?_
      have e2 : (2 * k - 1) * (2 * k - 1) + 1 = 2 * (n * n) := by grind
      have e3 : (2 * k' - 1) * (2 * k' - 1) + 1 = 2 * (n * n) := by grind
      omega
    omega
  · have := odd_mono s s' (by omega); omega

theorem odd_child {k n : Int} (s : OddSol k n) : OddSol (3 * k + 2 * n - 1) (4 * k + 3 * n - 2) := by
  obtain ⟨h0, h1, e⟩ := s
  exact ⟨by omega, by omega, by grind⟩

theorem odd_gap (d : Nat) : ∀ {h n hm m : Int}, n ≤ d → OddSol h n → OddSol hm m → n < m → 4 * h + 3 * n - 2 ≤ m := by
  induction d with
  | zero => intro h n hm m hd s; have := s.2.1; omega
  | succ d ih =>
    intro h n hm m hd s sm c
    have p := odd_parent sm (by have := s.2.1; omega)
    by_cases c1 : n ≤ 3 * m - 4 * hm + 2
    · have := odd_mono_le s p c1
      omega
    · by_cases c2 : 1 < n
      · have q := odd_parent s c2
        have hq := q.1
        have hq1 := q.2.1
        by_cases c3 : 3 * n - 4 * h + 2 < 3 * m - 4 * hm + 2
        · have := ih (by omega) q p c3
          omega
        · have := odd_mono_le p q (by omega)
          omega
      · have := p.2.1; omega

/-- the square that two neighbours' squares make together, or come next to -/
def ff (k : Int) : Int := k * k + (k - 1) * (k - 1)
theorem ff_eq (k : Int) : 2 * ff k = (2 * k - 1) * (2 * k - 1) + 1 := by unfold ff; grind
theorem ff_le {a b : Int} (ha : 1 ≤ a) (h : a ≤ b) : ff a ≤ ff b := by
  have x := ff_eq a
  have y := ff_eq b
  have := sq_le (a := 2 * a - 1) (b := 2 * b - 1) (by omega) (by omega)
  omega
theorem ff_bound {k : Int} (h0 : 1 ≤ k) (h1 : k ≤ 1000001) : 0 ≤ ff k ∧ ff k ≤ 2000003000000 ∧ 0 ≤ k * k ∧ k * k ≤ 1000002000001 ∧ 0 ≤ (k - 1) * (k - 1) ∧ (k - 1) * (k - 1) ≤ 1000002000001 := by
  have a := mul_bound (show 0 ≤ k by omega) (show 0 ≤ k by omega) h1 h1
  have b := mul_bound (show 0 ≤ k - 1 by omega) (show 0 ≤ k - 1 by omega) (show k - 1 ≤ 1000000 by omega) (show k - 1 ≤ 1000000 by omega)
  unfold ff; omega

theorem l1_eq (k : Nat) (most : Int) (out : List (List Int)) (x n : Int) (x0 : 1 ≤ x) (x1 : x ≤ 1000001) (n0 : 1 ≤ n) (n1 : n ≤ 1000001) :
    impl_BalancedOdd.l1 (k + 1) most out x n = (if ff x < n * n then impl_BalancedOdd.l1 k most out (x + 1) n else if ff x = n * n then (if out.length < 5864062014805 then impl_BalancedOdd.l0 k most (out ++ [[2 * x - 1, 2 * n - 1]]) x (n + 1) else none) else impl_BalancedOdd.l0 k most out x (n + 1)) := by
  have b := ff_bound x0 x1
  have c := mul_bound (show 0 ≤ n by omega) (show 0 ≤ n by omega) n1 n1
  simp only [impl_BalancedOdd.l1]
  rw [wi (x := x - 1) (by omega) (by omega), wi (x := x * x) (by omega) (by omega), wi (x := (x - 1) * (x - 1)) (by omega) (by omega), show x * x + (x - 1) * (x - 1) = ff x from rfl, wi (x := ff x) (by omega) (by omega), wi (x := n * n) (by omega) (by omega),
    wi (x := x + 1) (by omega) (by omega), wi (x := 2 * x) (by omega) (by omega), wi (x := 2 * n) (by omega) (by omega), wi (x := 2 * x - 1) (by omega) (by omega), wi (x := 2 * n - 1) (by omega) (by omega), wi (x := n + 1) (by omega) (by omega)]

theorem raise_house (most : Int) (out : List (List Int)) (n : Int) (n0 : 1 ≤ n) (n1 : n ≤ 1000000) (d : Nat) : ∀ (x : Int), 1 ≤ x → x ≤ n → n - x ≤ d → (x = 1 ∨ ff (x - 1) < n * n) →
    ∃ (g : Int) (j : Nat), x ≤ g ∧ g ≤ n ∧ (j : Int) = g - x ∧ n * n ≤ ff g ∧ (g = 1 ∨ ff (g - 1) < n * n) ∧
      ∀ k, impl_BalancedOdd.l1 (k + 1 + j) most out x n = (if ff g = n * n then (if out.length < 5864062014805 then impl_BalancedOdd.l0 k most (out ++ [[2 * g - 1, 2 * n - 1]]) g (n + 1) else none) else impl_BalancedOdd.l0 k most out g (n + 1)) := by
  have top : n * n ≤ ff n := by
    have : 0 ≤ (n - 1) * (n - 1) := Int.mul_nonneg (by omega) (by omega)
    unfold ff; omega
  induction d with
  | zero =>
    intro x a b c q
    have : x = n := by omega
    subst this
    exact ⟨x, 0, by omega, by omega, by omega, top, q, fun k => by
      rw [Nat.add_zero, l1_eq k most out x x a (by omega) a (by omega), if_neg (by omega)]⟩
  | succ d ih =>
    intro x a b c q
    by_cases g : ff x < n * n
    · have lt : x < n := by
        by_cases e : x = n
        · rw [e] at g; omega
        · omega
      obtain ⟨g', j, x1, x2, x3, x4, x5, x6⟩ := ih (x + 1) (by omega) (by omega) (by omega) (Or.inr (by rw [show x + 1 - 1 = x by omega]; exact g))
      refine ⟨g', j + 1, by omega, x2, by omega, x4, x5, fun k => ?_⟩
      rw [← Nat.add_assoc, l1_eq _ most out x n a (by omega) n0 (by omega), if_pos g]
      exact x6 k
    · exact ⟨x, 0, by omega, b, by omega, by omega, q, fun k => by
        rw [Nat.add_zero, l1_eq k most out x n a (by omega) n0 (by omega), if_neg g]⟩

/-- the sides that have a balanced house, from one on: what the reference's rule gives -/
inductive Sides (most : Int) : Int → Int → List (List Int) → Prop
  | stop {h n : Int} : OddSol h n → most < 2 * n - 1 → Sides most h n []
  | go {h n : Int} {l : List (List Int)} : OddSol h n → 2 * n - 1 ≤ most → Sides most (3 * h + 2 * n - 1) (4 * h + 3 * n - 2) l → Sides most h n ([2 * h - 1, 2 * n - 1] :: l)

theorem sides_all (most : Int) (d : Nat) : ∀ h n : Int, OddSol h n → most + 1 - n ≤ d → ∃ l, Sides most h n l ∧ (l.length : Int) ≤ max 0 (most + 1 - n) := by
  induction d with
  | zero => intro h n s c; have h1 := s.2.1; exact ⟨[], .stop s (by omega), by simp; omega⟩
  | succ d ih =>
    intro h n s c
    by_cases g : 2 * n - 1 ≤ most
    · have h0 := s.1
      have h1 := s.2.1
      obtain ⟨l, x, y⟩ := ih _ _ (odd_child s) (by omega)
      exact ⟨_, .go s g x, by simp; omega⟩
    · exact ⟨[], .stop s (by omega), by simp; omega⟩

theorem Sides.sol {most h n : Int} {l : List (List Int)} (s : Sides most h n l) : OddSol h n := by cases s <;> assumption

theorem Sides.two {most h n : Int} {l : List (List Int)} (s : Sides most h n l) : ∀ x ∈ l, x.length = 2 := by
  induction s with
  | stop => intro x hx; simp at hx
  | go _ _ _ ih => intro x hx; rcases List.mem_cons.1 hx with rfl | hx; rfl; exact ih x hx

/-- the program's search gives just these -/
theorem sides_found (most : Int) (hm : most ≤ 1000000) (d : Nat) : ∀ (k : Nat) (out : List (List Int)) (x i h n : Int) (l : List (List Int)), Sides most h n l → 1 ≤ i → i ≤ n → i ≤ most + 1 → most + 1 - i = d →
    1 ≤ x → x ≤ i → (x = 1 ∨ ff (x - 1) < i * i) → (∀ m y, i ≤ m → m < n → ¬ OddSol y m) → (out.length : Int) ≤ i → 2 * (most + 1 - i) + (most + 1 - x) < k →
    impl_BalancedOdd.l0 k most out x i = some (out ++ l, true) := by
  induction d with
  | zero =>
    intro k out x i h n l S l1 l2 l3 c a b q no ol hk
    obtain ⟨k, rfl⟩ : ∃ m, k = m + 1 := ⟨k - 1, by omega⟩
    simp only [impl_BalancedOdd.l0]
    rw [wi (x := 2 * i) (by omega) (by omega), wi (x := 2 * i - 1) (by omega) (by omega), if_neg (by omega)]
    cases S with
    | stop => rw [List.append_nil]
    | go => omega
  | succ d ih =>
    intro k out x i h n l S l1 l2 l3 c a b q no ol hk
    obtain ⟨k, rfl⟩ : ∃ m, k = m + 1 := ⟨k - 1, by omega⟩
    simp only [impl_BalancedOdd.l0]
    rw [wi (x := 2 * i) (by omega) (by omega), wi (x := 2 * i - 1) (by omega) (by omega)]
    by_cases more : 2 * i - 1 ≤ most
    · rw [if_pos more]
      obtain ⟨g, j, y1, y2, y3, y4, y5, y6⟩ := raise_house most out i l1 (by omega) (i - x).toNat x a b (by omega) q
      have y6 := y6 (k - 1 - j)
      rw [show k - 1 - j + 1 + j = k by omega] at y6
      rw [y6]
      have up : i * i < (i + 1) * (i + 1) := sq_lt (by omega) (by omega)
      have q' : g = 1 ∨ ff (g - 1) < (i + 1) * (i + 1) := by
        rcases y5 with y5 | y5
        · exact Or.inl y5
        · exact Or.inr (by omega)
      by_cases e : i = n
      · subst e
        have sl := S.sol
        have h0 := sl.1
        have e2 : ff h = i * i := sl.2.2
        have : g = h := by
          by_cases p : h < g
          · rcases y5 with y5 | y5
            · omega
            · have := ff_le (a := h) (b := g - 1) h0 (by omega); omega
          · by_cases p2 : g < h
            · have e3 := ff_eq g
              have e4 := ff_eq h
              have := sq_lt (a := 2 * g - 1) (b := 2 * h - 1) (by omega) (by omega)
              omega
            · omega
        subst this
        rw [if_pos e2, if_pos (by omega)]
        cases S with
        | stop _ z => omega
        | go _ z S2 =>
          rw [ih (k - 1 - j) (out ++ [[2 * g - 1, 2 * i - 1]]) g (i + 1) _ _ _ S2 (by omega) (by omega) (by omega) (by omega) (by omega) (by omega) q' (fun m y u v sx => by
            have := odd_gap i.toNat (by omega) sl sx (by omega); omega) (by simp; omega) (by omega)]
          simp
      · have e2 : ¬ ff g = i * i := fun e2 => no i g (by omega) (by omega) ⟨by omega, l1, e2⟩
        rw [if_neg e2]
        exact ih (k - 1 - j) out g (i + 1) h n l S (by omega) (by omega) (by omega) (by omega) (by omega) (by omega) q' (fun m y u v => no m y (by omega) v) (by omega) (by omega)
    · rw [if_neg more]
      cases S with
      | stop => rw [List.append_nil]
      | go => omega

theorem odd_one : OddSol 1 1 := ⟨by omega, by omega, by omega⟩

theorem spec_found (most : Int) (hm : most ≤ 1000000) (l : List (List Int)) {h n : Int} (S : Sides most h n l) : ∀ (k : Nat) (out : List (List Int)), h ≤ 10000000 → n ≤ 10000000 → out.length + l.length ≤ 1000000 → l.length < k →
    spec_BalancedOdd.l0 k most out (2 * h - 1) (2 * n - 1) = some (out ++ l, true) := by
  induction S with
  | stop s c =>
    intro k out _ _ _ hk
    obtain ⟨k, rfl⟩ : ∃ m, k = m + 1 := ⟨k - 1, by omega⟩
    simp only [spec_BalancedOdd.l0]
    rw [if_neg (by omega)]; simp
  | @go h n l s c S ih =>
    intro k out b1 b2 b3 hk
    obtain ⟨k, rfl⟩ : ∃ m, k = m + 1 := ⟨k - 1, by omega⟩
    have h0 := s.1
    have h1 := s.2.1
    have hh : h ≤ n := by
      refine le_of_sq (by omega) ?_
      have := s.2.2
      have : 0 ≤ (h - 1) * (h - 1) := Int.mul_nonneg (by omega) (by omega)
      omega
    simp only [List.length_cons] at b3 hk
    simp only [spec_BalancedOdd.l0]
    rw [if_pos c, if_pos (by omega), wi (x := 3 * (2 * h - 1)) (by omega) (by omega), wi (x := 2 * (2 * n - 1)) (by omega) (by omega), wi (x := 4 * (2 * h - 1)) (by omega) (by omega), wi (x := 3 * (2 * n - 1)) (by omega) (by omega), wi (x := 3 * (2 * h - 1) + 2 * (2 * n - 1)) (by omega) (by omega), wi (x := 4 * (2 * h - 1) + 3 * (2 * n - 1)) (by omega) (by omega), wi (x := 3 * (2 * h - 1) + 2 * (2 * n - 1) + 2) (by omega) (by omega), wi (x := 4 * (2 * h - 1) + 3 * (2 * n - 1) + 2) (by omega) (by omega)]
    rw [show 3 * (2 * h - 1) + 2 * (2 * n - 1) + 2 = 2 * (3 * h + 2 * n - 1) - 1 by omega, show 4 * (2 * h - 1) + 3 * (2 * n - 1) + 2 = 2 * (4 * h + 3 * n - 2) - 1 by omega, ih k (out ++ [[2 * h - 1, 2 * n - 1]]) (by omega) (by omega) (by simp; omega) (by omega)]
    simp

set_option maxHeartbeats 4000000 in
/-- the law's own walk, over what both functions tell -/
theorem law_over (a : Int) (l : List (List Int)) (b : Bool) (hl : l.length ≤ 1000000) (h2 : ∀ x ∈ l, x.length = 2) (hs : ∀ W, Calls Try.prog 19 #[.int .i64 a] W (Out l b W)) (hi : ∀ W, Calls Try.prog 20 #[.int .i64 a] W (Out l b W)) (w : World) :
    Calls Try.prog 6 #[.int .i64 a] w fun e w' => e = .returned (.bool true) ∧ Below w.heap.size w w' := by
  obtain ⟨mf, ys, mf1, hy, hm, hh⟩ := marks_told l hl h2
  have HS := Aside0.mk hs
  have HI := Aside0.mk hi
  have HM := Aside0.mk hm
  have HH := Aside0.mk hh
  have H2 := Aside0.mk h2
  have HL := Aside0.mk hl
  have HY := Aside0.mk hy
  clear hs hi hm hh h2 hl hy
  go_enter Try.func6, Try.ntmps6
  go_wp2_with fail
  refine (HS.out _).mono ?_
  rintro e w1 ⟨A0, c0, rfl, h0, hb1⟩
  go_wp2_with fail
  refine (HI.out _).mono ?_
  rintro e w2 ⟨A1, c1, rfl, h1, hb2⟩
  have h0b : Aside0 (Rows2 w2 w.heap.size (.slice A0 l.length c0) l) := ⟨Kd.S_below h0.out hb2.out⟩
  go_wp2_with fail
  refine (equal_any HL.out H2.out _ h1 h0b).mono ?_
  rintro e w' ⟨rfl, ⟨nd, rfl⟩⟩
  go_wp2_with fail
  refine (marked_any (w0 := w1) HL.out HM _ ⟨pw_below_drewN hb2.out nd⟩ ⟨Kd.S_drewN h1.out nd⟩).mono ?_
  rintro e w3 ⟨rfl, h3, hb3⟩
  go_wp2_with fail
  refine (held_any HH _ h3).mono ?_
  rintro e w' ⟨rfl, ⟨nd2, rfl⟩⟩
  go_wp2_with fail
  refine (HI.out _).mono ?_
  rintro e w4 ⟨A2, c2, rfl, h4, hb4⟩
  have hb34 : Aside0 (Below w3.heap.size w3 w4) := ⟨(pw_below_drewN (Below.refl _ w3) nd2).trans hb4.out⟩
  have hb14 : Aside0 (Below w1.heap.size w1 w4) := ⟨hb3.out.trans (hb34.out.mono hb3.out.size)⟩
  have h0d : Aside0 (Rows2 w4 w.heap.size (.slice A0 l.length c0) l) := ⟨Kd.S_below h0.out hb14.out⟩
  have h3d : Aside0 (Rows2 w4 w1.heap.size (.slice A1 l.length c1) ys) := ⟨Kd.S_below h3.out hb34.out⟩
  go_wp2_with fail
  refine (equal_any HL.out H2.out _ h4 h0d).mono ?_
  rintro e w' ⟨rfl, ⟨nd3, rfl⟩⟩
  go_wp2_with fail
  refine (held_any HH _ ⟨Kd.S_drewN h3d.out nd3⟩).mono ?_
  rintro e w' ⟨rfl, ⟨nd4, rfl⟩⟩
  go_wp2_with fail
  go_ret
  exact ⟨rfl, pw_below_drewN (hb1.out.trans (hb14.out.mono hb1.out.size)) _⟩

theorem walk (a : Int) (w : World) : Calls Try.prog 6 #[.int .i64 a] w fun e w' => e = .returned (.bool true) ∧ Below w.heap.size w w' := by
  by_cases h : 1 ≤ a ∧ a ≤ 1000000
  · obtain ⟨l, S, ll⟩ := sides_all a 1000000 1 1 odd_one (by omega)
    have es : spec_BalancedOdd.f 2000000 a = some (l, true) := by
      unfold spec_BalancedOdd.f
      rw [hoMost_eq]
      simp only [Option.bind_some, decide_eq_true_eq]
      have := spec_found a h.2 l S 2000000 [] (by omega) (by omega) (by simp; omega) (by omega)
      rw [if_pos h]; simpa using this
    have ei : impl_BalancedOdd.f 4000001 a = some (l, true) := by
      unfold impl_BalancedOdd.f
      rw [isHouse_eq]
      simp only [Option.bind_some, decide_eq_true_eq]
      rw [if_pos h, sides_found a h.2 a.toNat 4000001 [] 1 1 1 1 l S (by omega) (by omega) (by omega) (by omega) (by omega) (by omega) (Or.inl rfl) (fun m y u v => by omega) (by simp) (by omega)]
      simp
    exact law_over a l true (by omega) S.two (fun W => out_of (spec_BalancedOdd.calls 2000000 a l true W es)) (fun W => out_of (impl_BalancedOdd.calls 4000001 a l true W ei)) w
  · have es : spec_BalancedOdd.f 0 a = some ([], false) := by
      unfold spec_BalancedOdd.f
      rw [hoMost_eq]
      simp only [Option.bind_some, decide_eq_true_eq]
      rw [if_neg h]
    have ei : impl_BalancedOdd.f 0 a = some ([], false) := by
      unfold impl_BalancedOdd.f
      rw [isHouse_eq]
      simp only [Option.bind_some, decide_eq_true_eq]
      rw [if_neg h]
    exact law_over a [] false (by simp) (by simp) (fun W => out_of (spec_BalancedOdd.calls 0 a [] false W es)) (fun W => out_of (impl_BalancedOdd.calls 0 a [] false W ei)) w
end Go.Proofs.Ytmcgkjhfghgdlaa.HOdd
