/-
  BalancedStreets: the streets that have a balanced house: the program's search finds just those that the reference's rule gives.
-/
import Derived.Test.YtmcgkjhfghgdlaaHMarks
namespace Go.Proofs.Ytmcgkjhfghgdlaa.HStreets
open Go.RowKit Go.Proofs.YtmcgkjhfghgdlaaW.PrintWords Go.Proofs.Ytmcgkjhfghgdlaa.Num Go.Proofs.Ytmcgkjhfghgdlaa.PFnExactBalancedStreets Go.Proofs.Ytmcgkjhfghgdlaa.HMarks
set_option linter.unusedVariables false
set_option linter.unusedSimpArgs false
theorem l1In_eq (a b c : Int) : spec_l1In.f a b c = some (decide (b ≤ a ∧ a ≤ c)) := by
  unfold spec_l1In.f
  by_cases h : a ≥ b
  · rw [if_pos h]; congr 1; simp; omega
  · rw [if_neg h]; congr 1; simp; omega
theorem within_eq (a b c : Int) : impl_within.f a b c = some (decide (b ≤ a ∧ a ≤ c)) := by
  unfold impl_within.f
  by_cases h : b ≤ a
  · rw [if_pos h]; congr 1; simp; omega
  · rw [if_neg h]; congr 1; simp; omega
theorem hoMost_eq (a : Int) : spec_hoMost.f a = some (decide (1 ≤ a ∧ a ≤ 1000000)) := by
  unfold spec_hoMost.f; rw [l1In_eq]; rfl
theorem isHouse_eq (a : Int) : impl_isHouse.f a = some (decide (1 ≤ a ∧ a ≤ 1000000)) := by
  unfold impl_isHouse.f; rw [within_eq]; rfl
theorem upTo_eq {a : Int} (h0 : 0 ≤ a) (h1 : a ≤ 1000001) : impl_upTo.f a = some (tri a) := by
  have hb := mul_bound h0 (show 0 ≤ a + 1 by omega) h1 (show a + 1 ≤ 1000002 by omega)
  have ht := two_tri a
  unfold impl_upTo.f
  rw [wi (x := a + 1) (by omega) (by omega), wi (x := a * (a + 1)) (by omega) (by omega), td2 hb.1, wi (by omega) (by omega)]
  rfl
def Sol (h n : Int) : Prop := 0 ≤ h ∧ 1 ≤ n ∧ 2 * (h * h) = n * (n + 1)

theorem sol_parent {h n : Int} (s : Sol h n) (hn : 1 < n) : Sol (3 * h - 2 * n - 1) (3 * n - 4 * h + 1) := by
  obtain ⟨h0, h1, e⟩ := s
  refine ⟨?_, ?_, ?_⟩
  · have : 2 * n + 1 ≤ 3 * h := by
      refine le_of_sq (by omega) ?_
      -- (2n+1)^2 = 8h^2+1 ≤ 9 h^2
      have : 1 ≤ h * h := by
        have := sq_lt (a := 0) (b := h) (by omega) (by
          by_cases c : h = 0
          · subst c; have : 0 < n * (n+1) := Int.mul_pos (by omega) (by omega); omega
          · omega)
        omega
      grind
    omega
  · have : 4 * h ≤ 3 * n := by
      refine le_of_sq (by omega) ?_
      -- 16 h^2 = 8 n^2 + 8 n <= 9 n^2 iff 8 <= n ; n between 2..7 no solution
      by_cases c : 8 ≤ n
      · have : 8 * n ≤ n * n := Int.mul_le_mul_of_nonneg_right c (by omega)
        grind
      · have hh : h < 8 := lt_of_sq (by omega) (by
          have : n * (n+1) ≤ 7 * 8 := Int.mul_le_mul (by omega) (by omega) (by omega) (by omega)
          omega)
        have g1 : h = 0 ∨ h = 1 ∨ h = 2 ∨ h = 3 ∨ h = 4 ∨ h = 5 ∨ h = 6 ∨ h = 7 := by omega
        have g2 : n = 2 ∨ n = 3 ∨ n = 4 ∨ n = 5 ∨ n = 6 ∨ n = 7 := by omega
        rcases g1 with rfl | rfl | rfl | rfl | rfl | rfl | rfl | rfl <;> rcases g2 with rfl | rfl | rfl | rfl | rfl | rfl <;> omega
    omega
  · grind

theorem sol_mono {h n h' n' : Int} (s : Sol h n) (s' : Sol h' n') (c : n < n') : h < h' := by
  obtain ⟨a0, a1, e⟩ := s
  obtain ⟨b0, b1, e'⟩ := s'
  refine lt_of_sq b0 ?_
  have : n * (n + 1) < n' * (n' + 1) := by
    have h1 : n * (n + 1) ≤ n * (n' + 1) := Int.mul_le_mul_of_nonneg_left (by omega) (by omega)
    have h2 : n * (n' + 1) < n' * (n' + 1) := Int.mul_lt_mul_of_pos_right c (by omega)
    omega
  omega

theorem sol_mono_le {h n h' n' : Int} (s : Sol h n) (s' : Sol h' n') (c : n ≤ n') : h ≤ h' := by
  by_cases e : n = n'
  · subst e
    obtain ⟨a0, a1, e⟩ := s
    obtain ⟨b0, b1, e'⟩ := s'
    exact le_of_sq b0 (by omega)
  · have := sol_mono s s' (by omega); omega

theorem sol_child {h n : Int} (s : Sol h n) : Sol (3 * h + 2 * n + 1) (4 * h + 3 * n + 1) := by
  obtain ⟨h0, h1, e⟩ := s
  exact ⟨by omega, by omega, by grind⟩

theorem sol_gap (d : Nat) : ∀ {h n hm m : Int}, n ≤ d → Sol h n → Sol hm m → n < m → 4 * h + 3 * n + 1 ≤ m := by
  induction d with
  | zero => intro h n hm m hd s; have := s.2.1; omega
  | succ d ih =>
    intro h n hm m hd s sm c
    have p := sol_parent sm (by have := s.2.1; omega)
    by_cases c1 : n ≤ 3 * m - 4 * hm + 1
    · have := sol_mono_le s p c1
      omega
    · by_cases c2 : 1 < n
      · have q := sol_parent s c2
        have hq := q.1
        have hq1 := q.2.1
        -- parent n < parent m
        by_cases c3 : 3 * n - 4 * h + 1 < 3 * m - 4 * hm + 1
        · have := ih (by omega) q p c3
          omega
        · have := sol_mono_le p q (by omega)
          omega
      · have := p.2.1; omega

def OddSol (k n : Int) : Prop := 1 ≤ k ∧ 1 ≤ n ∧ k * k + (k - 1) * (k - 1) = n * n

theorem odd_parent {k n : Int} (s : OddSol k n) (hn : 1 < n) : OddSol (3 * k - 2 * n - 1) (3 * n - 4 * k + 2) := by
  obtain ⟨h0, h1, e⟩ := s
  have e2 : (2 * k - 1) * (2 * k - 1) + 1 = 2 * (n * n) := by grind
  have h5 : 5 ≤ n := by
    by_cases c : 5 ≤ n
    · exact c
    · have hh : k < 5 := by
        have : 2 * k - 1 < 7 := lt_of_sq (by omega) (by
          have : n * n ≤ 4 * 4 := Int.mul_le_mul (by omega) (by omega) (by omega) (by omega)
          omega)
        omega
      have g1 : k = 1 ∨ k = 2 ∨ k = 3 ∨ k = 4 := by omega
      have g2 : n = 2 ∨ n = 3 ∨ n = 4 := by omega
      rcases g1 with rfl | rfl | rfl | rfl <;> rcases g2 with rfl | rfl | rfl <;> omega
  have n5 : 5 * n ≤ n * n := Int.mul_le_mul_of_nonneg_right h5 (by omega)
  refine ⟨?_, ?_, by grind⟩
  · have : 4 * n + 1 ≤ 3 * (2 * k - 1) := by
      refine le_of_sq (by omega) ?_
      have a1 : 3 * (2 * k - 1) * (3 * (2 * k - 1)) = 18 * (n * n) - 9 := by grind
      have a2 : (4 * n + 1) * (4 * n + 1) = 16 * (n * n) + 8 * n + 1 := by grind
      omega
    omega
  · have : 2 * (2 * k - 1) ≤ 3 * n - 1 := by
      refine le_of_sq (by omega) ?_
      have a1 : 2 * (2 * k - 1) * (2 * (2 * k - 1)) = 8 * (n * n) - 4 := by grind
      have a3 : 0 ≤ (n - 1) * (n - 5) := Int.mul_nonneg (by omega) (by omega)
      have a4 : (n - 1) * (n - 5) = n * n - 6 * n + 5 := by grind
      have a2 : (3 * n - 1) * (3 * n - 1) = 9 * (n * n) - 6 * n + 1 := by grind
      omega
    omega

theorem odd_mono {k n k' n' : Int} (s : OddSol k n) (s' : OddSol k' n') (c : n < n') : k < k' := by
  obtain ⟨a0, a1, e⟩ := s
  obtain ⟨b0, b1, e'⟩ := s'
  have : 2 * k - 1 < 2 * k' - 1 := by
    refine lt_of_sq (by omega) ?_
    have := sq_lt (a := n) (b := n') (by omega) c
    have e2 : (2 * k - 1) * (2 * k - 1) + 1 = 2 * (n * n) := by grind
    have e3 : (2 * k' - 1) * (2 * k' - 1) + 1 = 2 * (n' * n') := by grind
    omega
  omega

theorem odd_mono_le {k n k' n' : Int} (s : OddSol k n) (s' : OddSol k' n') (c : n ≤ n') : k ≤ k' := by
  by_cases e : n = n'
  · subst e
    obtain ⟨a0, a1, e⟩ := s
    obtain ⟨b0, b1, e'⟩ := s'
    have : 2 * k - 1 ≤ 2 * k' - 1 := by
      refine le_of_sq (by omega) ?_
      have e2 : (2 * k - 1) * (2 * k - 1) + 1 = 2 * (n * n) := by grind
      have e3 : (2 * k' - 1) * (2 * k' - 1) + 1 = 2 * (n * n) := by grind
      omega
    omega
  · have := odd_mono s s' (by omega); omega

theorem odd_child {k n : Int} (s : OddSol k n) : OddSol (3 * k + 2 * n - 1) (4 * k + 3 * n - 2) := by
  obtain ⟨h0, h1, e⟩ := s
  exact ⟨by omega, by omega, by grind⟩

theorem odd_gap (d : Nat) : ∀ {h n hm m : Int}, n ≤ d → OddSol h n → OddSol hm m → n < m → 4 * h + 3 * n - 2 ≤ m := by
  induction d with
  | zero => intro h n hm m hd s; have := s.2.1; omega
  | succ d ih =>
    intro h n hm m hd s sm c
    have p := odd_parent sm (by have := s.2.1; omega)
    by_cases c1 : n ≤ 3 * m - 4 * hm + 2
    · have := odd_mono_le s p c1
      omega
    · by_cases c2 : 1 < n
      · have q := odd_parent s c2
        have hq := q.1
        have hq1 := q.2.1
        by_cases c3 : 3 * n - 4 * h + 2 < 3 * m - 4 * hm + 2
        · have := ih (by omega) q p c3
          omega
        · have := odd_mono_le p q (by omega)
          omega
      · have := p.2.1; omega
/-- the house is raised to the first one whose square is at least the sum -/
theorem raise_house (most : Int) (hm : most ≤ 1000000) (out : List (List Int)) (last : Int) (l1 : 1 ≤ last) (l2 : last ≤ most) (d : Nat) : ∀ (k : Nat) (hh : Int), 0 ≤ hh → hh ≤ last → last - hh ≤ d → (hh = 0 ∨ (hh - 1) * (hh - 1) < tri last) →
    ∃ (g : Int) (j : Nat), hh ≤ g ∧ g ≤ last ∧ (j : Int) = g - hh ∧ tri last ≤ g * g ∧ (g - 1) * (g - 1) < tri last ∧
      impl_BalancedStreets.l1 (k + 1 + j) most out hh last = (if g * g = tri last then (if out.length < 5864062014805 then impl_BalancedStreets.l0 k most (out ++ [[g, last]]) g (last + 1) else none) else impl_BalancedStreets.l0 k most out g (last + 1)) := by
  have t1 := tri_bound (n := last) (by omega) (by omega)
  have t0 := tri_nonneg (n := last - 1) (by omega)
  have ts := tri_succ (last - 1)
  rw [show last - 1 + 1 = last by omega] at ts
  have tt := two_tri last
  have e : last * (last + 1) = last * last + last := by grind
  have ll : last ≤ last * last := by
    have := Int.mul_le_mul_of_nonneg_left l1 (show 0 ≤ last by omega); omega
  induction d with
  | zero =>
    intro k hh a b c q
    have : hh = last := by omega
    subst this
    refine ⟨hh, 0, by omega, by omega, by omega, by omega, ?_, ?_⟩
    · rcases q with q | q
      · omega
      · exact q
    · rw [Nat.add_zero]
      simp only [impl_BalancedStreets.l1]
      have bb := mul_bound a a (show hh ≤ 1000000 by omega) (show hh ≤ 1000000 by omega)
      rw [upTo_eq (by omega) (by omega), wi (x := hh * hh) (by omega) (by omega), wi (x := hh + 1) (by omega) (by omega)]
      simp only [Option.bind_some]
      rw [if_neg (by omega)]
  | succ d ih =>
    intro k hh a b c q
    have bb := mul_bound a a (show hh ≤ 1000000 by omega) (show hh ≤ 1000000 by omega)
    by_cases g : hh * hh < tri last
    · have lt : hh < last := lt_of_sq (by omega) (by omega)
      obtain ⟨g', j, x1, x2, x3, x4, x5, x6⟩ := ih k (hh + 1) (by omega) (by omega) (by omega) (Or.inr (by rw [show hh + 1 - 1 = hh by omega]; exact g))
      refine ⟨g', j + 1, by omega, x2, by omega, x4, x5, ?_⟩
      rw [← Nat.add_assoc]
      simp only [impl_BalancedStreets.l1]
      rw [upTo_eq (by omega) (by omega), wi (x := hh * hh) (by omega) (by omega), wi (x := hh + 1) (by omega) (by omega)]
      simp only [Option.bind_some]
      rw [if_pos g]
      exact x6
    · refine ⟨hh, 0, by omega, b, by omega, by omega, ?_, ?_⟩
      · rcases q with q | q
        · subst q; omega
        · exact q
      · rw [Nat.add_zero]
        simp only [impl_BalancedStreets.l1]
        rw [upTo_eq (by omega) (by omega), wi (x := hh * hh) (by omega) (by omega), wi (x := last + 1) (by omega) (by omega)]
        simp only [Option.bind_some]
        rw [if_neg g]

/-- the streets that have a balanced house, from one on: what the reference's rule gives -/
inductive Streets (most : Int) : Int → Int → List (List Int) → Prop
  | stop {h n : Int} : Sol h n → most < n → Streets most h n []
  | go {h n : Int} {l : List (List Int)} : Sol h n → n ≤ most → Streets most (3 * h + 2 * n + 1) (4 * h + 3 * n + 1) l → Streets most h n ([h, n] :: l)

theorem streets_all (most : Int) (d : Nat) : ∀ h n : Int, Sol h n → most + 1 - n ≤ d → ∃ l, Streets most h n l ∧ (l.length : Int) ≤ max 0 (most + 1 - n) := by
  induction d with
  | zero => intro h n s c; exact ⟨[], .stop s (by omega), by simp; omega⟩
  | succ d ih =>
    intro h n s c
    by_cases g : n ≤ most
    · have h0 := s.1
      have h1 := s.2.1
      obtain ⟨l, x, y⟩ := ih _ _ (sol_child s) (by omega)
      exact ⟨_, .go s g x, by simp; omega⟩
    · exact ⟨[], .stop s (by omega), by simp; omega⟩

theorem Streets.sol {most h n : Int} {l : List (List Int)} (s : Streets most h n l) : Sol h n := by cases s <;> assumption

/-- the program's search gives just these -/
theorem streets_found (most : Int) (hm : most ≤ 1000000) (d : Nat) : ∀ (k : Nat) (out : List (List Int)) (hh last h n : Int) (l : List (List Int)), Streets most h n l → 1 ≤ last → last ≤ n → last ≤ most + 1 → most + 1 - last = d →
    0 ≤ hh → hh ≤ last → (hh = 0 ∨ (hh - 1) * (hh - 1) < tri last) → (∀ m x, last ≤ m → m < n → ¬ Sol x m) → (out.length : Int) ≤ last → 2 * (most + 1 - last) + (most + 1 - hh) < k →
    impl_BalancedStreets.l0 k most out hh last = some (out ++ l, true) := by
  induction d with
  | zero =>
    intro k out hh last h n l S l1 l2 l3 c a b q no ol hk
    obtain ⟨k, rfl⟩ : ∃ m, k = m + 1 := ⟨k - 1, by omega⟩
    simp only [impl_BalancedStreets.l0]
    rw [if_neg (by omega)]
    cases S with
    | stop => rw [List.append_nil]
    | go => omega
  | succ d ih =>
    intro k out hh last h n l S l1 l2 l3 c a b q no ol hk
    obtain ⟨k, rfl⟩ : ∃ m, k = m + 1 := ⟨k - 1, by omega⟩
    simp only [impl_BalancedStreets.l0]
    rw [if_pos (by omega)]
    obtain ⟨k', hk'⟩ : ∃ k' : Nat, (k' : Int) = k - 1 - (last - hh) := ⟨(k - 1 - (last - hh)).toNat, by omega⟩
    obtain ⟨g, j, x1, x2, x3, x4, x5, -⟩ := raise_house most hm out last l1 (by omega) (last - hh).toNat k' hh a b (by omega) q
    obtain ⟨g2, j2, y1, y2, y3, y4, y5, y6⟩ := raise_house most hm out last l1 (by omega) (last - hh).toNat (k - 1 - j) hh a b (by omega) q
    have gg : g2 = g := by
      by_cases p : g2 < g
      · have := sq_le (a := g2) (b := g - 1) (by omega) (by omega); omega
      · by_cases p2 : g < g2
        · have := sq_le (a := g) (b := g2 - 1) (by omega) (by omega); omega
        · omega
    subst gg
    have : j2 = j := by omega
    subst this
    rw [show k - 1 - j2 + 1 + j2 = k by omega] at y6
    rw [y6]
    have tm := tri_succ last
    have q' : g2 = 0 ∨ (g2 - 1) * (g2 - 1) < tri (last + 1) := Or.inr (by omega)
    have tt := two_tri last
    by_cases e : last = n
    · subst e
      have sl := S.sol
      have h0 := sl.1
      have : g2 = h := by
        have e2 : h * h = tri last := by have := sl.2.2; omega
        by_cases p : h < g2
        · have := sq_le (a := h) (b := g2 - 1) h0 (by omega); omega
        · have := le_of_sq (a := h) (b := g2) (by omega) (by omega); omega
      subst this
      have e2 : g2 * g2 = tri last := by have := sl.2.2; omega
      rw [if_pos e2, if_pos (by omega)]
      cases S with
      | stop _ z => omega
      | go _ z S2 =>
        rw [ih (k - 1 - j2) (out ++ [[g2, last]]) g2 (last + 1) _ _ _ S2 (by omega) (by omega) (by omega) (by omega) (by omega) (by omega) q' (fun m x u v sx => by
          have := sol_gap last.toNat (by omega) sl sx (by omega); omega) (by simp; omega) (by omega)]
        simp
    · have e2 : ¬ g2 * g2 = tri last := fun e2 => no last g2 (by omega) (by omega) ⟨by omega, l1, by omega⟩
      rw [if_neg e2]
      exact ih (k - 1 - j2) out g2 (last + 1) h n l S (by omega) (by omega) (by omega) (by omega) (by omega) (by omega) q' (fun m x u v => no m x (by omega) v) (by omega) (by omega)

theorem sol_one : Sol 1 1 := ⟨by omega, by omega, by omega⟩

theorem implBalanced_tells (most : Int) (h1 : 1 ≤ most) (h2 : most ≤ 1000000) (l : List (List Int)) (S : Streets most 1 1 l) (k : Nat) (hk : 4000000 < k) : impl_BalancedStreets.f k most = some (l, true) := by
  unfold impl_BalancedStreets.f
  rw [isHouse_eq]
  simp only [Option.bind_some, decide_eq_true_eq]
  rw [if_pos ⟨h1, h2⟩, streets_found most h2 most.toNat k [] 0 1 1 1 l S (by omega) (by omega) (by omega) (by omega) (by omega) (by omega) (Or.inl rfl) (fun m x u v => by omega) (by simp) (by omega)]
  simp

theorem spec_found (most : Int) (hm : most ≤ 1000000) (l : List (List Int)) {h n : Int} (S : Streets most h n l) : ∀ (k : Nat) (out : List (List Int)), h ≤ 10000000 → n ≤ 10000000 → out.length + l.length ≤ 1000000 → l.length < k →
    spec_BalancedStreets.l0 k most out h n = some (out ++ l, true) := by
  induction S with
  | stop s c =>
    intro k out _ _ _ hk
    obtain ⟨k, rfl⟩ : ∃ m, k = m + 1 := ⟨k - 1, by omega⟩
    simp only [spec_BalancedStreets.l0]
    rw [if_neg (by omega)]; simp
  | @go h n l s c S ih =>
    intro k out b1 b2 b3 hk
    obtain ⟨k, rfl⟩ : ∃ m, k = m + 1 := ⟨k - 1, by omega⟩
    have h0 := s.1
    have h1 := s.2.1
    have hh : h ≤ n := by
      refine le_of_sq (by omega) ?_
      have := s.2.2
      have e : n * (n + 1) = n * n + n := by grind
      have ll : n ≤ n * n := by have := Int.mul_le_mul_of_nonneg_left h1 (show 0 ≤ n by omega); omega
      omega
    simp only [List.length_cons] at b3 hk
    simp only [spec_BalancedStreets.l0]
    rw [if_pos c, if_pos (by omega), wi (x := 3 * h) (by omega) (by omega), wi (x := 2 * n) (by omega) (by omega), wi (x := 4 * h) (by omega) (by omega), wi (x := 3 * n) (by omega) (by omega), wi (x := 3 * h + 2 * n) (by omega) (by omega), wi (x := 4 * h + 3 * n) (by omega) (by omega), wi (x := 3 * h + 2 * n + 1) (by omega) (by omega), wi (x := 4 * h + 3 * n + 1) (by omega) (by omega)]
    rw [ih k (out ++ [[h, n]]) (by omega) (by omega) (by simp; omega) (by omega)]
    simp

theorem Streets.two {most h n : Int} {l : List (List Int)} (s : Streets most h n l) : ∀ x ∈ l, x.length = 2 := by
  induction s with
  | stop => intro x hx; simp at hx
  | go _ _ _ ih => intro x hx; rcases List.mem_cons.1 hx with rfl | hx; rfl; exact ih x hx

set_option maxHeartbeats 4000000 in
/-- the law's own walk, over what both functions tell -/
theorem law_over (a : Int) (l : List (List Int)) (b : Bool) (hl : l.length ≤ 1000000) (h2 : ∀ x ∈ l, x.length = 2) (hs : ∀ W, Calls Try.prog 24 #[.int .i64 a] W (Out l b W)) (hi : ∀ W, Calls Try.prog 25 #[.int .i64 a] W (Out l b W)) (w : World) :
    Calls Try.prog 7 #[.int .i64 a] w fun e w' => e = .returned (.bool true) ∧ Below w.heap.size w w' := by
  obtain ⟨mf, ys, mf1, hy, hm, hh⟩ := marks_told l hl h2
  have HS := Aside0.mk hs
  have HI := Aside0.mk hi
  have HM := Aside0.mk hm
  have HH := Aside0.mk hh
  have H2 := Aside0.mk h2
  have HL := Aside0.mk hl
  have HY := Aside0.mk hy
  clear hs hi hm hh h2 hl hy
  go_enter Try.func7, Try.ntmps7
  go_wp2_with fail
  refine (HS.out _).mono ?_
  rintro e w1 ⟨A0, c0, rfl, h0, hb1⟩
  go_wp2_with fail
  refine (HI.out _).mono ?_
  rintro e w2 ⟨A1, c1, rfl, h1, hb2⟩
  have h0b : Aside0 (Rows2 w2 w.heap.size (.slice A0 l.length c0) l) := ⟨Kd.S_below h0.out hb2.out⟩
  go_wp2_with fail
  refine (equal_any HL.out H2.out _ h1 h0b).mono ?_
  rintro e w' ⟨rfl, ⟨nd, rfl⟩⟩
  go_wp2_with fail
  refine (marked_any (w0 := w1) HL.out HM _ ⟨pw_below_drewN hb2.out nd⟩ ⟨Kd.S_drewN h1.out nd⟩).mono ?_
  rintro e w3 ⟨rfl, h3, hb3⟩
  go_wp2_with fail
  refine (held_any HH _ h3).mono ?_
  rintro e w' ⟨rfl, ⟨nd2, rfl⟩⟩
  go_wp2_with fail
  refine (HI.out _).mono ?_
  rintro e w4 ⟨A2, c2, rfl, h4, hb4⟩
  have hb34 : Aside0 (Below w3.heap.size w3 w4) := ⟨(pw_below_drewN (Below.refl _ w3) nd2).trans hb4.out⟩
  have hb14 : Aside0 (Below w1.heap.size w1 w4) := ⟨hb3.out.trans (hb34.out.mono hb3.out.size)⟩
  have h0d : Aside0 (Rows2 w4 w.heap.size (.slice A0 l.length c0) l) := ⟨Kd.S_below h0.out hb14.out⟩
  have h3d : Aside0 (Rows2 w4 w1.heap.size (.slice A1 l.length c1) ys) := ⟨Kd.S_below h3.out hb34.out⟩
  go_wp2_with fail
  refine (equal_any HL.out H2.out _ h4 h0d).mono ?_
  rintro e w' ⟨rfl, ⟨nd3, rfl⟩⟩
  go_wp2_with fail
  refine (held_any HH _ ⟨Kd.S_drewN h3d.out nd3⟩).mono ?_
  rintro e w' ⟨rfl, ⟨nd4, rfl⟩⟩
  go_wp2_with fail
  go_ret
  exact ⟨rfl, pw_below_drewN (hb1.out.trans (hb14.out.mono hb1.out.size)) _⟩

theorem walk (a : Int) (w : World) : Calls Try.prog 7 #[.int .i64 a] w fun e w' => e = .returned (.bool true) ∧ Below w.heap.size w w' := by
  by_cases h : 1 ≤ a ∧ a ≤ 1000000
  · obtain ⟨l, S, ll⟩ := streets_all a 1000000 1 1 sol_one (by omega)
    have es : spec_BalancedStreets.f 2000000 a = some (l, true) := by
      unfold spec_BalancedStreets.f
      rw [hoMost_eq]
      simp only [Option.bind_some, decide_eq_true_eq]
      rw [if_pos h, spec_found a h.2 l S 2000000 [] (by omega) (by omega) (by simp; omega) (by omega)]; simp
    have ei := implBalanced_tells a h.1 h.2 l S 4000001 (by omega)
    exact law_over a l true (by omega) S.two (fun W => out_of (spec_BalancedStreets.calls 2000000 a l true W es)) (fun W => out_of (impl_BalancedStreets.calls 4000001 a l true W ei)) w
  · have es : spec_BalancedStreets.f 0 a = some ([], false) := by
      unfold spec_BalancedStreets.f
      rw [hoMost_eq]
      simp only [Option.bind_some, decide_eq_true_eq]
      rw [if_neg h]
    have ei : impl_BalancedStreets.f 0 a = some ([], false) := by
      unfold impl_BalancedStreets.f
      rw [isHouse_eq]
      simp only [Option.bind_some, decide_eq_true_eq]
      rw [if_neg h]
    exact law_over a [] false (by simp) (by simp) (fun W => out_of (spec_BalancedStreets.calls 0 a [] false W es)) (fun W => out_of (impl_BalancedStreets.calls 0 a [] false W ei)) w
end Go.Proofs.Ytmcgkjhfghgdlaa.HStreets
