/-
  How many texts of so many digits have each sum: both sides reckon the same list; what lies outside of it is 0.
-/
import Derived.Test.YtkienapjmgjafaaDoorHSums
namespace Go.Proofs.YtkienapjmgjafaaDoor.HSums
open Go.RowKit Go.Proofs.YtkienapjmgjafaaDoorW.PrintWords Go.Proofs.YtkienapjmgjafaaDoorW.PrintLast Go.Proofs.YtkienapjmgjafaaDoorW.PrintMore Go.Proofs.YtkienapjmgjafaaDoor.PNumberOfSum Go.Proofs.YtkienapjmgjafaaDoor.PdiSum Go.Proofs.YtkienapjmgjafaaDoor.PtkOf Go.Proofs.YtkienapjmgjafaaDoor.PtkWays Go.Proofs.YtkienapjmgjafaaDoor.Pl1In
open Go.Lib (decDigits)
set_option linter.unusedVariables false
set_option linter.unusedSimpArgs false

/-- the list -/
def W (j : Nat) : List Int := (List.range (9 * j + 1)).map fun (t : Nat) => ((C j (t : Int) : Nat) : Int)

theorem W_length (j : Nat) : (W j).length = 9 * j + 1 := by simp [W]

theorem rd_get (xs : List Int) (t : Nat) (h : t < xs.length) : rd xs (t : Int) = xs[t] := by
  unfold rd; rw [Int.toNat_natCast, List.getD_eq_getElem?_getD, List.getElem?_eq_getElem h]; rfl

theorem rd_out (xs : List Int) (t : Nat) (h : xs.length ≤ t) : rd xs (t : Int) = 0 := by
  unfold rd; rw [Int.toNat_natCast, List.getD_eq_getElem?_getD, List.getElem?_eq_none h]; rfl

theorem rd_W (j t : Nat) : rd (W j) (t : Int) = C j (t : Int) := by
  by_cases h : t < 9 * j + 1
  · rw [rd_get _ _ (by rw [W_length]; exact h)]; simp [W]
  · rw [rd_out _ _ (by rw [W_length]; omega), C_out (by omega)]; rfl

theorem W_ext {xs : List Int} {j : Nat} (h : xs.length = 9 * j + 1) (h2 : ∀ t : Nat, rd xs (t : Int) = C j (t : Int)) : xs = W j := by
  apply List.ext_getElem
  · rw [h, W_length]
  · intro t h3 h4
    rw [← rd_get xs t h3, ← rd_get (W j) t h4, h2, rd_W]

theorem rd_set (xs : List Int) (i t : Nat) (v : Int) (h : i < xs.length) : rd (xs.set i v) (t : Int) = if t = i then v else rd xs (t : Int) := by
  unfold rd
  rw [Int.toNat_natCast, List.getD_eq_getElem?_getD, List.getD_eq_getElem?_getD, List.getElem?_set]
  by_cases c : i = t
  · subst c; rw [if_pos rfl, if_pos h, if_pos rfl]; rfl
  · rw [if_neg c, if_neg (fun e => c e.symm)]

/-- what the first i sums of a list give to the next list's t, over the first D digits -/
def S (out : List Int) (i t : Nat) : Nat → Int
  | 0 => 0
  | D + 1 => S out i t D + if D ≤ t ∧ t - D < i then rd out ((t - D : Nat) : Int) else 0

theorem S_step (out : List Int) (i t : Nat) : ∀ D, S out (i + 1) t D = S out i t D + if i ≤ t ∧ t < i + D then rd out (i : Int) else 0 := by
  intro D
  induction D with
  | zero => simp only [S]; rw [if_neg (by omega)]; rfl
  | succ D ih =>
    simp only [S, ih]
    by_cases c1 : t = i + D
    · subst c1
      rw [if_neg (show ¬ (i ≤ i + D ∧ i + D < i + D) by omega), if_pos (show D ≤ i + D ∧ i + D - D < i + 1 by omega), if_neg (show ¬ (D ≤ i + D ∧ i + D - D < i) by omega), if_pos (by omega), show i + D - D = i by omega]
    · by_cases c2 : D ≤ t ∧ t - D < i
      · rw [if_pos (show D ≤ t ∧ t - D < i + 1 by omega), if_pos c2]
        by_cases c3 : i ≤ t ∧ t < i + D
        · rw [if_pos c3, if_pos (by omega)]; try omega
        · rw [if_neg c3, if_neg (by omega)]; try omega
      · rw [if_neg (show ¬ (D ≤ t ∧ t - D < i + 1) by omega), if_neg c2]
        by_cases c3 : i ≤ t ∧ t < i + D
        · rw [if_pos c3, if_pos (by omega)]; try omega
        · rw [if_neg c3, if_neg (by omega)]; try omega

theorem S_range {out : List Int} {M : Int} (hM : 0 ≤ M) (h : ∀ t : Nat, 0 ≤ rd out (t : Int) ∧ rd out (t : Int) ≤ M) (i t : Nat) : ∀ D : Nat, 0 ≤ S out i t D ∧ S out i t D ≤ M * D := by
  intro D
  induction D with
  | zero => simp [S]
  | succ D ih =>
    have := h (t - D)
    simp only [S]
    rw [show M * ((D + 1 : Nat) : Int) = M * D + M by push_cast; rw [Int.mul_add, Int.mul_one]]
    split <;> omega

theorem S_zero (out : List Int) (t : Nat) : ∀ D, S out 0 t D = 0 := by
  intro D
  induction D with
  | zero => rfl
  | succ D ih => rw [S, ih, if_neg (by omega), Int.add_zero]

theorem S_C (j t : Nat) : S (W j) (9 * j + 1) t 10 = C (j + 1) (t : Int) := by
  have key : ∀ D, S (W j) (9 * j + 1) t D = (sumTo (fun d => C j ((t : Int) - d)) D : Nat) := by
    intro D
    induction D with
    | zero => rfl
    | succ D ih =>
      rw [S, sumTo, ih]
      by_cases c : D ≤ t ∧ t - D < 9 * j + 1
      · rw [if_pos c, rd_W, show (((t - D : Nat) : Int)) = (t : Int) - D by omega]; push_cast; rfl
      · rw [if_neg c, C_out (show (t : Int) - D < 0 ∨ 9 * (j : Int) < (t : Int) - D by omega)]; rfl
  rw [key, C]

theorem W_range (j t : Nat) (h : j ≤ 12) : 0 ≤ rd (W j) (t : Int) ∧ rd (W j) (t : Int) ≤ 1000000000000 := by
  rw [rd_W]
  have h1 := C_le j (t : Int)
  have h2 : 10 ^ j ≤ 10 ^ 12 := Nat.pow_le_pow_right (by omega) h
  have h3 : (10 : Nat) ^ 12 = 1000000000000 := by decide
  omega

theorem rd_replicate (n t : Nat) : rd (List.replicate n 0) (t : Int) = 0 := by
  by_cases h : t < n
  · rw [rd_get _ _ (by simpa using h)]; simp
  · rw [rd_out _ _ (by simpa using h)]

/-! ### the reference's -/
theorem tkWays_l2 (x0 v : Int) (s : Nat) (x17 : List Int) (x18 x19 : Int) (v0 : 0 ≤ v) (v1 : v ≤ 1000000000000) (s1 : s ≤ 200) : ∀ (r j : Nat) (xs : List Int), j + r = 10 → s + 10 ≤ xs.length → (∀ t : Nat, s + j ≤ t → 0 ≤ rd xs (t : Int) ∧ rd xs (t : Int) ≤ 100000000000000) →
    ∃ ys : List Int, ys.length = xs.length ∧ (∀ t : Nat, rd ys (t : Int) = rd xs (t : Int) + if s + j ≤ t ∧ t < s + 10 then v else 0) ∧ ∀ k, spec_tkWays.l2 (k + r + 1) x0 xs s v j x17 x18 x19 = spec_tkWays.l1 k x0 ys x17 x18 (wrap64 (x19 + 1)) := by
  intro r
  induction r with
  | zero =>
    intro j xs hj hl hb
    refine ⟨xs, rfl, fun t => by rw [if_neg (by omega), Int.add_zero], fun k => ?_⟩
    rw [spec_tkWays.l2, if_neg (by omega)]
  | succ r ih =>
    intro j xs hj hl hb
    have hb1 := hb (s + j) (Nat.le_refl _)
    obtain ⟨ys, e1, e2, e3⟩ := ih (j + 1) (xs.set (s + j) (rd xs ((s + j : Nat) : Int) + v)) (by omega) (by rw [List.length_set]; exact hl) (fun t ht => by
      rw [rd_set _ _ _ _ (by omega), if_neg (by omega)]
      exact hb t (by omega))
    refine ⟨ys, by rw [e1, List.length_set], fun t => ?_, fun k => ?_⟩
    · rw [e2, rd_set _ _ _ _ (by omega)]
      by_cases c : t = s + j
      · subst c
        rw [if_pos rfl, if_neg (by omega), if_pos (by omega), Int.add_zero]
      · rw [if_neg c]
        by_cases c2 : s + j ≤ t ∧ t < s + 10
        · rw [if_pos c2, if_pos (by omega)]
        · rw [if_neg c2, if_neg (by omega)]
    · rw [← e3 k, show k + (r + 1) + 1 = (k + r + 1) + 1 by omega, spec_tkWays.l2, if_pos (by omega), wi (x := (s : Int) + j) (by omega) (by omega), if_pos (by omega), if_pos (by omega), show ((s : Int) + j).toNat = s + j by omega, show (s : Int) + j = ((s + j : Nat) : Int) by omega, wi (x := rd xs ((s + j : Nat) : Int) + v) (by omega) (by omega), wi (x := (j : Int) + 1) (by omega) (by omega), show (j : Int) + 1 = ((j + 1 : Nat) : Int) by omega]

theorem tkWays_l1 (x0 : Int) (out : List Int) (m : Nat) (hm : out.length = m) (m1 : m ≤ 200) (ho : ∀ t : Nat, 0 ≤ rd out (t : Int) ∧ rd out (t : Int) ≤ 1000000000000) : ∀ (r i : Nat) (xs : List Int), i + r = m → xs.length = m + 9 → (∀ t : Nat, rd xs (t : Int) = S out i t 10) →
    ∃ ys : List Int, ys.length = m + 9 ∧ (∀ t : Nat, rd ys (t : Int) = S out m t 10) ∧ ∃ c, ∀ k, spec_tkWays.l1 (k + c) x0 xs out m i = spec_tkWays.l0 k (wrap64 (x0 - 1)) ys := by
  intro r
  induction r with
  | zero =>
    intro i xs hi hl hx
    obtain rfl : i = m := by omega
    refine ⟨xs, hl, hx, 1, fun k => ?_⟩
    rw [spec_tkWays.l1, if_neg (by omega)]
  | succ r ih =>
    intro i xs hi hl hx
    have hoi := ho i
    obtain ⟨zs, a1, a2, a3⟩ := tkWays_l2 x0 (rd out (i : Int)) i out m i hoi.1 hoi.2 (by omega) 10 0 xs (by omega) (by omega) (fun t _ => by
      have := S_range (show (0 : Int) ≤ 1000000000000 by omega) ho i t 10
      rw [hx]; omega)
    obtain ⟨ys, b1, b2, c, b3⟩ := ih (i + 1) zs (by omega) (by omega) (fun t => by
      rw [a2, hx, S_step, Nat.add_zero])
    refine ⟨ys, b1, b2, c + 12, fun k => ?_⟩
    rw [← b3 k, show k + (c + 12) = ((k + c) + 10 + 1) + 1 by omega, spec_tkWays.l1, if_pos (by omega), if_pos (by omega), if_pos (by omega)]
    have := a3 (k + c)
    rw [show ((i : Int) + 1) = ((i + 1 : Nat) : Int) by omega, wi (x := ((i + 1 : Nat) : Int)) (by omega) (by omega)] at this
    rw [← this]; rfl

theorem tkWays_l0 : ∀ (r j : Nat), j + r ≤ 13 → ∃ c, ∀ k, spec_tkWays.l0 (k + c) r (W j) = some (W (j + r)) := by
  intro r
  induction r with
  | zero =>
    intro j hj
    refine ⟨1, fun k => ?_⟩
    rw [spec_tkWays.l0, if_neg (by omega)]; rfl
  | succ r ih =>
    intro j hj
    have wl := W_length j
    obtain ⟨ys, b1, b2, c1, b3⟩ := tkWays_l1 ((r + 1 : Nat) : Int) (W j) (9 * j + 1) wl (by omega) (fun t => W_range j t (by omega)) (9 * j + 1) 0 (List.replicate (9 * j + 10) 0) (by omega) (by simp) (fun t => by rw [rd_replicate, S_zero])
    have ey : ys = W (j + 1) := W_ext (by rw [b1]; omega) (fun t => by rw [b2, S_C])
    subst ey
    obtain ⟨c2, e2⟩ := ih (j + 1) (by omega)
    refine ⟨c2 + c1 + 1, fun k => ?_⟩
    rw [show k + (c2 + c1 + 1) = (k + c2 + c1) + 1 by omega, spec_tkWays.l0, if_pos (by omega), wl, wi (x := ((9 * j + 1 : Nat) : Int) + 9) (by omega) (by omega), if_pos (by omega), show (((9 * j + 1 : Nat) : Int) + 9).toNat = 9 * j + 10 by omega, if_pos (by omega)]
    have b := b3 (k + c2)
    rw [wi (x := ((r + 1 : Nat) : Int) - 1) (by omega) (by omega), show ((r + 1 : Nat) : Int) - 1 = (r : Int) by omega, e2 k] at b
    rw [show j + (r + 1) = j + 1 + r by omega, ← b]; rfl

theorem W_zero : W 0 = [1] := rfl

theorem tkWays_some : ∃ c, ∀ k n : Nat, c ≤ k → n ≤ 13 → spec_tkWays.f k n = some (W n) := by
  have key : ∀ n : Nat, ∃ c, ∀ k m : Nat, c ≤ k → m ≤ n → m ≤ 13 → spec_tkWays.f k m = some (W m) := by
    intro n
    induction n with
    | zero =>
      obtain ⟨c, e⟩ := tkWays_l0 0 0 (by omega)
      refine ⟨c, fun k m hk hm _ => ?_⟩
      obtain rfl : m = 0 := by omega
      have := e (k - c)
      rw [show k - c + c = k by omega] at this
      exact this
    | succ n ih =>
      obtain ⟨c, e⟩ := ih
      by_cases h : n + 1 ≤ 13
      · obtain ⟨c2, e2⟩ := tkWays_l0 (n + 1) 0 (by omega)
        refine ⟨c + c2, fun k m hk hm h13 => ?_⟩
        by_cases hc : m ≤ n
        · exact e k m (by omega) hc h13
        · obtain rfl : m = n + 1 := by omega
          have := e2 (k - c2)
          rw [show k - c2 + c2 = k by omega, Nat.zero_add] at this
          exact this
      · exact ⟨c, fun k m hk hm h13 => e k m hk (by omega) h13⟩
  obtain ⟨c, e⟩ := key 13
  exact ⟨c, fun k n hk hn => e k n hk hn hn⟩

theorem tkOf_eq (n : Nat) (s : Int) : spec_tkOf.f (W n) s = some (C n s : Int) := by
  unfold spec_tkOf.f
  rw [W_length]
  by_cases c1 : s < 0
  · rw [if_pos c1, C_out (.inl c1)]; rfl
  · rw [if_neg c1]
    by_cases c2 : s ≥ ((9 * n + 1 : Nat) : Int)
    · rw [if_pos c2, C_out (.inr (by omega))]; rfl
    · obtain ⟨t, rfl⟩ : ∃ t : Nat, s = t := ⟨s.toNat, by omega⟩
      rw [if_neg c2, if_pos (by omega), if_pos (by omega), rd_W]

/-! ### the program's -/
theorem ways_l2 (v : Int) (s : Nat) (x9 x10 : Int) (x16 : List Int) (x17 x18 : Int) (v0 : 0 ≤ v) (v1 : v ≤ 1000000000000) (s1 : s ≤ 200) : ∀ (r j : Nat) (xs : List Int), j + r = 10 → s + 10 ≤ xs.length → (∀ t : Nat, s + j ≤ t → 0 ≤ rd xs (t : Int) ∧ rd xs (t : Int) ≤ 100000000000000) →
    ∃ ys : List Int, ys.length = xs.length ∧ (∀ t : Nat, rd ys (t : Int) = rd xs (t : Int) + if s + j ≤ t ∧ t < s + 10 then v else 0) ∧ ∀ k, impl_ways.l2 (k + r + 1) xs s v x9 x10 x16 x17 x18 j = impl_ways.l1 k ys x9 x10 x16 x17 (wrap64 (x18 + 1)) := by
  intro r
  induction r with
  | zero =>
    intro j xs hj hl hb
    refine ⟨xs, rfl, fun t => by rw [if_neg (by omega), Int.add_zero], fun k => ?_⟩
    rw [impl_ways.l2, if_neg (by omega)]
  | succ r ih =>
    intro j xs hj hl hb
    have hb1 := hb (s + j) (Nat.le_refl _)
    obtain ⟨ys, e1, e2, e3⟩ := ih (j + 1) (xs.set (s + j) (rd xs ((s + j : Nat) : Int) + v)) (by omega) (by rw [List.length_set]; exact hl) (fun t ht => by
      rw [rd_set _ _ _ _ (by omega), if_neg (by omega)]
      exact hb t (by omega))
    refine ⟨ys, by rw [e1, List.length_set], fun t => ?_, fun k => ?_⟩
    · rw [e2, rd_set _ _ _ _ (by omega)]
      by_cases c : t = s + j
      · subst c
        rw [if_pos rfl, if_neg (by omega), if_pos (by omega), Int.add_zero]
      · rw [if_neg c]
        by_cases c2 : s + j ≤ t ∧ t < s + 10
        · rw [if_pos c2, if_pos (by omega)]
        · rw [if_neg c2, if_neg (by omega)]
    · rw [← e3 k, show k + (r + 1) + 1 = (k + r + 1) + 1 by omega, impl_ways.l2, if_pos (by omega), wi (x := (s : Int) + j) (by omega) (by omega), if_pos (by omega), if_pos (by omega), show ((s : Int) + j).toNat = s + j by omega, show (s : Int) + j = ((s + j : Nat) : Int) by omega, wi (x := rd xs ((s + j : Nat) : Int) + v) (by omega) (by omega), wi (x := (j : Int) + 1) (by omega) (by omega), show (j : Int) + 1 = ((j + 1 : Nat) : Int) by omega]

theorem ways_l1 (x9 x10 : Int) (out : List Int) (m : Nat) (hm : out.length = m) (m1 : m ≤ 200) (ho : ∀ t : Nat, 0 ≤ rd out (t : Int) ∧ rd out (t : Int) ≤ 1000000000000) : ∀ (r i : Nat) (xs : List Int), i + r = m → xs.length = m + 9 → (∀ t : Nat, rd xs (t : Int) = S out i t 10) →
    ∃ ys : List Int, ys.length = m + 9 ∧ (∀ t : Nat, rd ys (t : Int) = S out m t 10) ∧ ∃ c, ∀ k, impl_ways.l1 (k + c) xs x9 x10 out m i = impl_ways.l0 k ys x9 (wrap64 (x10 + 1)) := by
  intro r
  induction r with
  | zero =>
    intro i xs hi hl hx
    obtain rfl : i = m := by omega
    refine ⟨xs, hl, hx, 1, fun k => ?_⟩
    rw [impl_ways.l1, if_neg (by omega)]
  | succ r ih =>
    intro i xs hi hl hx
    have hoi := ho i
    obtain ⟨zs, a1, a2, a3⟩ := ways_l2 (rd out (i : Int)) i x9 x10 out m i hoi.1 hoi.2 (by omega) 10 0 xs (by omega) (by omega) (fun t _ => by
      have := S_range (show (0 : Int) ≤ 1000000000000 by omega) ho i t 10
      rw [hx]; omega)
    obtain ⟨ys, b1, b2, c, b3⟩ := ih (i + 1) zs (by omega) (by omega) (fun t => by
      rw [a2, hx, S_step, Nat.add_zero])
    refine ⟨ys, b1, b2, c + 12, fun k => ?_⟩
    rw [← b3 k, show k + (c + 12) = ((k + c) + 10 + 1) + 1 by omega, impl_ways.l1, if_pos (by omega), if_pos (by omega), if_pos (by omega)]
    have := a3 (k + c)
    rw [show ((i : Int) + 1) = ((i + 1 : Nat) : Int) by omega, wi (x := ((i + 1 : Nat) : Int)) (by omega) (by omega)] at this
    rw [← this]; rfl

theorem ways_l0 (N : Nat) (hN : N ≤ 13) : ∀ (r j : Nat), j + r = N → ∃ c, ∀ k, impl_ways.l0 (k + c) (W j) N j = some (W N) := by
  intro r
  induction r with
  | zero =>
    intro j hj
    refine ⟨1, fun k => ?_⟩
    rw [impl_ways.l0, if_neg (by omega), show j = N by omega]
  | succ r ih =>
    intro j hj
    have wl := W_length j
    obtain ⟨ys, b1, b2, c1, b3⟩ := ways_l1 N j (W j) (9 * j + 1) wl (by omega) (fun t => W_range j t (by omega)) (9 * j + 1) 0 (List.replicate (9 * j + 10) 0) (by omega) (by simp) (fun t => by rw [rd_replicate, S_zero])
    have ey : ys = W (j + 1) := W_ext (by rw [b1]; omega) (fun t => by rw [b2, S_C])
    subst ey
    obtain ⟨c2, e2⟩ := ih (j + 1) (by omega)
    refine ⟨c2 + c1 + 1, fun k => ?_⟩
    rw [show k + (c2 + c1 + 1) = (k + c2 + c1) + 1 by omega, impl_ways.l0, if_pos (by omega), wl, wi (x := ((9 * j + 1 : Nat) : Int) + 9) (by omega) (by omega), if_pos (by omega), show (((9 * j + 1 : Nat) : Int) + 9).toNat = 9 * j + 10 by omega, if_pos (by omega)]
    have b := b3 (k + c2)
    rw [wi (x := (j : Int) + 1) (by omega) (by omega), show (j : Int) + 1 = ((j + 1 : Nat) : Int) by omega, e2 k] at b
    rw [← b]; rfl

theorem ways_some : ∃ c, ∀ k n : Nat, c ≤ k → n ≤ 13 → impl_ways.f k n = some (W n) := by
  have key : ∀ n : Nat, ∃ c, ∀ k m : Nat, c ≤ k → m ≤ n → m ≤ 13 → impl_ways.f k m = some (W m) := by
    intro n
    induction n with
    | zero =>
      obtain ⟨c, e⟩ := ways_l0 0 (by omega) 0 0 (by omega)
      refine ⟨c, fun k m hk hm _ => ?_⟩
      obtain rfl : m = 0 := by omega
      have := e (k - c)
      rw [show k - c + c = k by omega] at this
      exact this
    | succ n ih =>
      obtain ⟨c, e⟩ := ih
      by_cases h : n + 1 ≤ 13
      · obtain ⟨c2, e2⟩ := ways_l0 (n + 1) h (n + 1) 0 (by omega)
        refine ⟨c + c2, fun k m hk hm h13 => ?_⟩
        by_cases hc : m ≤ n
        · exact e k m (by omega) hc h13
        · obtain rfl : m = n + 1 := by omega
          have := e2 (k - c2)
          rw [show k - c2 + c2 = k by omega] at this
          exact this
      · exact ⟨c, fun k m hk hm h13 => e k m hk (by omega) h13⟩
  obtain ⟨c, e⟩ := key 13
  exact ⟨c, fun k n hk hn => e k n hk hn hn⟩

theorem at_eq (n : Nat) (hn : n ≤ 13) (s : Int) : impl_at.f (W n) s = some (C n s : Int) := by
  unfold impl_at.f impl_within.f
  rw [W_length, wi (x := ((9 * n + 1 : Nat) : Int) - 1) (by omega) (by omega)]
  by_cases c1 : 0 ≤ s
  · rw [if_pos c1]
    simp only [Option.bind_some, decide_eq_true_eq]
    by_cases c2 : s ≤ ((9 * n + 1 : Nat) : Int) - 1
    · obtain ⟨t, rfl⟩ : ∃ t : Nat, s = t := ⟨s.toNat, by omega⟩
      rw [if_pos c2, if_pos (by omega), if_pos (by omega), rd_W]
    · rw [if_neg c2, C_out (.inr (by omega))]; rfl
  · rw [if_neg c1]
    simp only [Option.bind_some]
    rw [if_neg (by decide), C_out (.inl (by omega))]; rfl
end Go.Proofs.YtkienapjmgjafaaDoor.HSums
