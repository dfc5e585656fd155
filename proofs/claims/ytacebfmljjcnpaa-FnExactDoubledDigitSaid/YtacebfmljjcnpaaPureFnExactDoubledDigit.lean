/-
  The law FnExactDoubledDigit, stated over numbers and lists alone, holds for all arguments, without conditions.
-/
import Derived.Test.YtacebfmljjcnpaaPFnExactDoubledDigitx1
import Derived.Test.YtacebfmljjcnpaaNum
namespace Go.Proofs.Ytacebfmljjcnpaa.Pure
open Go.RowKit Go.Proofs.Ytacebfmljjcnpaa.PFnExactDoubledDigit Go.Proofs.YtacebfmljjcnpaaW.PrintWords Go.Proofs.YtacebfmljjcnpaaW.PrintLast Go.Proofs.Ytacebfmljjcnpaa.Num
set_option linter.unusedVariables false
set_option linter.unusedSimpArgs false
theorem l1In_eq (a b c : Int) : spec_l1In.f a b c = some (decide (b ≤ a ∧ a ≤ c)) := by
  unfold spec_l1In.f
  by_cases h : a ≥ b
  · rw [if_pos h]; congr 1; simp; omega
  · rw [if_neg h]; congr 1; simp; omega
theorem within_eq (a b c : Int) : impl_within.f a b c = some (decide (b ≤ a ∧ a ≤ c)) := by
  unfold impl_within.f
  by_cases h : b ≤ a
  · rw [if_pos h]; congr 1; simp; omega
  · rw [if_neg h]; congr 1; simp; omega

/-- what a digit counts at a place so far from the end -/
def worth (c : Int) (odd : Bool) : Int := if odd then (if (c - 48) % 256 * 2 ≥ 10 then (c - 48) % 256 * 2 - 9 else (c - 48) % 256 * 2) else (c - 48) % 256

/-- the sum from the place i on -/
def tot (s : ByteArray) : Nat → Int → Int
  | 0, _ => 0
  | d + 1, i => worth (bt s i) (decide (((s.size : Int) - i) % 2 = 0)) + tot s d (i + 1)

theorem worth_bound (c : Int) (o : Bool) : 0 ≤ worth c o ∧ worth c o ≤ 510 := by unfold worth; (repeat' split) <;> omega

theorem tot_snoc (s : ByteArray) (d : Nat) : ∀ i : Int, tot s (d + 1) i = tot s d i + worth (bt s (i + d)) (decide (((s.size : Int) - (i + d)) % 2 = 0)) := by
  induction d with
  | zero => intro i; simp [tot]
  | succ d ih =>
    intro i
    rw [tot, ih (i + 1), tot, show i + 1 + (d : Int) = i + ((d + 1 : Nat) : Int) by push_cast; omega]
    omega

theorem spec_go (s : ByteArray) (hs : s.size ≤ 1000000) (d : Nat) : ∀ (k : Nat) (all i : Int), 0 ≤ i → i + d = s.size → 0 ≤ all → all ≤ i * 1000 → d < k →
    spec_slDoubled.l0 k s all i = some (all + tot s d i) := by
  induction d with
  | zero =>
    intro k all i a b c1 c2 hk
    obtain ⟨k, rfl⟩ : ∃ m, k = m + 1 := ⟨k - 1, by omega⟩
    simp only [spec_slDoubled.l0]
    rw [if_neg (by omega), tot, Int.add_zero]
  | succ d ih =>
    intro k all i a b c1 c2 hk
    obtain ⟨k, rfl⟩ : ∃ m, k = m + 1 := ⟨k - 1, by omega⟩
    have w := worth_bound (bt s i) (decide (((s.size : Int) - i) % 2 = 0))
    have go := ih k (all + worth (bt s i) (decide (((s.size : Int) - i) % 2 = 0))) (i + 1) (by omega) (by omega) (by omega) (by omega) (by omega)
    simp only [spec_slDoubled.l0]
    rw [if_pos (by omega), if_pos a, wi (x := (s.size : Int) - i) (by omega) (by omega), tm2 (by omega), wi (x := i + 1) (by omega) (by omega)]
    rw [tot, ← Int.add_assoc, ← go]
    unfold worth at w ⊢
    by_cases e : ((s.size : Int) - i) % 2 = 0
    · simp only [e, decide_true, if_true] at w ⊢
      by_cases g : (bt s i - 48) % 256 * 2 ≥ 10
      · simp only [g, if_true] at w ⊢; rw [wi (by omega) (by omega)]
      · simp only [g, if_false] at w ⊢; rw [wi (by omega) (by omega)]
    · simp only [e, decide_false, Bool.false_eq_true, if_false] at w ⊢
      rw [wi (by omega) (by omega)]

theorem impl_go (s : ByteArray) (hs : s.size ≤ 1000000) (dig : ∀ i : Int, 0 ≤ i → i < s.size → 48 ≤ bt s i ∧ bt s i ≤ 57) (d : Nat) : ∀ (k : Nat) (all i : Int), 0 ≤ i → i + d = s.size → 0 ≤ all → all ≤ i * 1000 → d < k →
    impl_doubled.l0 k s all s.size i = some (all + tot s d 0) := by
  induction d with
  | zero =>
    intro k all i a b c1 c2 hk
    obtain ⟨k, rfl⟩ : ∃ m, k = m + 1 := ⟨k - 1, by omega⟩
    simp only [impl_doubled.l0]
    rw [if_neg (by omega), tot, Int.add_zero]
  | succ d ih =>
    intro k all i a b c1 c2 hk
    obtain ⟨k, rfl⟩ : ∃ m, k = m + 1 := ⟨k - 1, by omega⟩
    have p : (s.size : Int) - 1 - i = d := by omega
    have dd := dig d (by omega) (by omega)
    have w := worth_bound (bt s d) (decide (((s.size : Int) - d) % 2 = 0))
    have go := ih k (all + worth (bt s d) (decide (((s.size : Int) - d) % 2 = 0))) (i + 1) (by omega) (by omega) (by omega) (by omega) (by omega)
    simp only [impl_doubled.l0]
    rw [if_pos (by omega), wi (x := (s.size : Int) - 1) (by omega) (by omega), wi (x := (s.size : Int) - 1 - i) (by omega) (by omega), p, if_pos (by omega), if_pos (by omega), wi (x := i + 1) (by omega) (by omega), tm2 a]
    rw [tot_snoc, Int.zero_add, show all + (tot s d 0 + worth (bt s d) (decide (((s.size : Int) - d) % 2 = 0))) = all + worth (bt s d) (decide (((s.size : Int) - d) % 2 = 0)) + tot s d 0 by omega, ← go]
    have e : (((s.size : Int) - d) % 2 = 0) ↔ i % 2 = 1 := by omega
    unfold worth at w ⊢
    simp only [e] at w ⊢
    by_cases e : i % 2 = 1
    · simp only [e, decide_true, if_true, impl_bit.f, decide_eq_true_eq] at w ⊢
      by_cases g : (bt s d - 48) % 256 * 2 ≥ 10
      · simp only [g, if_true] at w ⊢
        rw [if_pos (show (bt s d - 48) % 256 * 2 > 9 by omega)]
        simp only [Option.bind_some]
        rw [show wrap64 (9 * 1) = 9 from wi (by omega) (by omega), wi (x := (bt s d - 48) % 256 * 2 - 9) (by omega) (by omega), wi (by omega) (by omega)]
      · simp only [g, if_false] at w ⊢
        rw [if_neg (show ¬ (bt s d - 48) % 256 * 2 > 9 by omega)]
        simp only [Option.bind_some]
        rw [show wrap64 (9 * 0) = 0 from wi (by omega) (by omega), Int.sub_zero, wi (x := (bt s d - 48) % 256 * 2) (by omega) (by omega), wi (by omega) (by omega)]
    · simp only [e, decide_false, Bool.false_eq_true, if_false, impl_bit.f, decide_eq_true_eq] at w ⊢
      rw [if_neg (show ¬ (bt s d - 48) % 256 > 9 by omega)]
      simp only [Option.bind_some]
      rw [show wrap64 (9 * 0) = 0 from wi (by omega) (by omega), Int.sub_zero, wi (x := (bt s d - 48) % 256) (by omega) (by omega), wi (by omega) (by omega)]

/-- both looks at the digits tell the same, and what they tell -/
theorem specLook_go (s : ByteArray) (hs : s.size ≤ 1048576) (d : Nat) : ∀ (k : Nat) (i : Int), 0 ≤ i → i + d = s.size → d < k →
    ∃ b : Bool, spec_slDigits.l0 k s i = some b ∧ (b = true ↔ ∀ j : Int, i ≤ j → j < s.size → 48 ≤ bt s j ∧ bt s j ≤ 57) := by
  induction d with
  | zero =>
    intro k i a b hk
    obtain ⟨k, rfl⟩ : ∃ m, k = m + 1 := ⟨k - 1, by omega⟩
    refine ⟨true, by simp only [spec_slDigits.l0]; rw [if_neg (by omega)], by simp; intro j _ _; omega⟩
  | succ d ih =>
    intro k i a b hk
    obtain ⟨k, rfl⟩ : ∃ m, k = m + 1 := ⟨k - 1, by omega⟩
    simp only [spec_slDigits.l0]
    rw [if_pos (by omega), if_pos a, wi (by omega) (by omega)]
    by_cases c1 : bt s i < 48
    · exact ⟨false, by rw [if_pos c1], by simp; exact ⟨i, by omega, by omega, by omega⟩⟩
    · by_cases c2 : bt s i > 57
      · exact ⟨false, by rw [if_neg c1, if_pos c2], by simp; exact ⟨i, by omega, by omega, by omega⟩⟩
      · obtain ⟨x, e, t⟩ := ih k (i + 1) (by omega) (by omega) (by omega)
        refine ⟨x, by rw [if_neg c1, if_neg c2, e], t.trans ⟨fun h j p q => ?_, fun h j p q => h j (by omega) q⟩⟩
        by_cases z : j = i
        · rw [z]; omega
        · exact h j (by omega) q

theorem implLook_go (s : ByteArray) (lo hi : Int) (hs : s.size ≤ 1048576) (d : Nat) : ∀ (k : Nat) (i : Int), 0 ≤ i → i + d = s.size → d < k →
    ∃ b : Bool, impl_areDigits.l0 k s lo hi s.size i = some b ∧ (b = true ↔ (∀ j : Int, i ≤ j → j < s.size → 48 ≤ bt s j ∧ bt s j ≤ 57) ∧ lo ≤ s.size ∧ s.size ≤ hi) := by
  induction d with
  | zero =>
    intro k i a b hk
    obtain ⟨k, rfl⟩ : ∃ m, k = m + 1 := ⟨k - 1, by omega⟩
    refine ⟨decide (lo ≤ s.size ∧ s.size ≤ hi), by simp only [impl_areDigits.l0]; rw [if_neg (by omega), within_eq]; rfl, by
      rw [decide_eq_true_eq]; exact ⟨fun h => ⟨fun j _ _ => by omega, h⟩, fun h => h.2⟩⟩
  | succ d ih =>
    intro k i a b hk
    obtain ⟨k, rfl⟩ : ∃ m, k = m + 1 := ⟨k - 1, by omega⟩
    simp only [impl_areDigits.l0]
    rw [if_pos (by omega), if_pos a, if_pos (by omega), wi (by omega) (by omega)]
    by_cases c1 : bt s i < 48
    · refine ⟨false, by rw [if_pos c1], ?_⟩
      constructor
      · intro h; cases h
      · intro h; have := h.1 i (by omega) (by omega); omega
    · by_cases c2 : bt s i > 57
      · refine ⟨false, by rw [if_neg c1, if_pos c2], ?_⟩
        constructor
        · intro h; cases h
        · intro h; have := h.1 i (by omega) (by omega); omega
      · obtain ⟨x, e, t⟩ := ih k (i + 1) (by omega) (by omega) (by omega)
        refine ⟨x, by rw [if_neg c1, if_neg c2, e], t.trans ⟨fun h => ⟨fun j p q => ?_, h.2⟩, fun h => ⟨fun j p q => h.1 j (by omega) q, h.2⟩⟩⟩
        by_cases z : j = i
        · rw [z]; omega
        · exact h.1 j (by omega) q

theorem bt_append (s : ByteArray) (i : Int) (h0 : 0 ≤ i) (h : i < (s ++ (⟨#[48]⟩ : ByteArray)).size) : bt (s ++ (⟨#[48]⟩ : ByteArray)) i = if i < s.size then bt s i else 48 := by
  have e : (s ++ (⟨#[48]⟩ : ByteArray)).size = s.size + 1 := by rw [ByteArray.size_append]; rfl
  rw [e] at h
  unfold bt
  rw [dif_pos (by rw [e]; omega)]
  by_cases c : i < s.size
  · rw [if_pos c, dif_pos (by omega), ByteArray.getElem_append_left (by omega)]
  · rw [if_neg c, ByteArray.getElem_append_right (by omega)]
    have : i.toNat - s.size = 0 := by omega
    simp only [this]; rfl

theorem FnExactDoubledDigit : laws_FnExactDoubledDigit.Pure := by
  intro s _
  obtain ⟨k, hk⟩ : ∃ k : Nat, k = 2000000 := ⟨_, rfl⟩
  refine ⟨k, ?_⟩
  unfold laws_FnExactDoubledDigit.f
  by_cases big : (s.size : Int) > 1048576
  · rw [if_pos big]
  · rw [if_neg big]
    obtain ⟨b1, e1, t1⟩ := specLook_go s (by omega) s.size k 0 (by omega) (by omega) (by omega)
    obtain ⟨b2, e2, t2⟩ := implLook_go s 1 11 (by omega) s.size k 0 (by omega) (by omega) (by omega)
    unfold spec_DoubledDigit.f impl_DoubledDigit.f spec_slDigits.f impl_areDigits.f
    rw [l1In_eq, e1, e2]
    simp only [Option.bind_some, decide_eq_true_eq]
    by_cases g : b2 = true
    · obtain ⟨g1, g2, g3⟩ := t2.1 g
      have b1t : b1 = true := t1.2 g1
      rw [g, b1t, if_pos (show (1 : Int) ≤ s.size ∧ (s.size : Int) ≤ 12 by omega)]
      simp only [Option.bind_some, if_true]
      have sz : s.size + 1 ≤ 9223372036854775807 := by omega
      rw [if_neg (show ¬ (s.size : Int) = 12 by omega)]
      simp only [if_pos sz]
      have e : (s ++ (⟨#[48]⟩ : ByteArray)).size = s.size + 1 := by rw [ByteArray.size_append]; rfl
      obtain ⟨t, ht⟩ : ∃ t, t = s ++ (⟨#[48]⟩ : ByteArray) := ⟨_, rfl⟩
      have dig : ∀ i : Int, 0 ≤ i → i < t.size → 48 ≤ bt t i ∧ bt t i ≤ 57 := by
        intro i a b
        rw [ht] at b ⊢
        rw [bt_append s i a b]
        by_cases c : i < s.size
        · rw [if_pos c]; exact g1 i a c
        · rw [if_neg c]; omega
      rw [← ht] at e ⊢
      unfold spec_slDoubled.f impl_doubled.f
      rw [spec_go t (by omega) t.size k 0 0 (by omega) (by omega) (by omega) (by omega) (by omega), impl_go t (by omega) dig t.size k 0 0 (by omega) (by omega) (by omega) (by omega) (by omega)]
      simp
    · have g' : b2 = false := by cases b2 <;> simp_all
      rw [g']
      simp only [Bool.false_eq_true, if_false, Option.bind_some]
      by_cases c : (1 : Int) ≤ s.size ∧ (s.size : Int) ≤ 12
      · rw [if_pos c]
        simp only [Option.bind_some]
        by_cases c2 : b1 = true
        · have : (s.size : Int) = 12 := by
            by_cases z : (s.size : Int) = 12
            · exact z
            · exact absurd (t2.2 ⟨t1.1 c2, c.1, by omega⟩) g
          rw [if_pos c2, if_pos this]; simp
        · rw [if_neg c2]; simp
      · rw [if_neg c]; simp
end Go.Proofs.Ytacebfmljjcnpaa.Pure
