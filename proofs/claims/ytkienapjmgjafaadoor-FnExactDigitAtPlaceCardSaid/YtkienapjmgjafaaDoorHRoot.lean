/-
  DigitRoot, ProductEnd: a function of the digits taken again and again until one digit is left.
-/
import Derived.Test.YtkienapjmgjafaaDoorHDigits
import Derived.Shelf.Abstract
namespace Go.Proofs.YtkienapjmgjafaaDoor.HSums
open Go.RowKit Go.Proofs.YtkienapjmgjafaaDoorW.PrintWords Go.Proofs.YtkienapjmgjafaaDoorW.PrintLast Go.Proofs.YtkienapjmgjafaaDoorW.PrintMore Go.Proofs.YtkienapjmgjafaaDoor.PNumberOfSum Go.Proofs.YtkienapjmgjafaaDoor.PdiSum Go.Proofs.YtkienapjmgjafaaDoor.PtkOf Go.Proofs.YtkienapjmgjafaaDoor.PtkWays Go.Proofs.YtkienapjmgjafaaDoor.Pl1In Go.Proofs.YtkienapjmgjafaaDoor.PsumOf
open Go.Lib (decDigits)
set_option linter.unusedVariables false
set_option linter.unusedSimpArgs false

/-- f, taken t times from n on, comes to the digit d -/
inductive Ends (f : Nat → Nat) : Nat → Nat → Nat → Prop
  | stop (n : Nat) (h : n ≤ 9) : Ends f n n 0
  | step (n d t : Nat) (h : 9 < n) (he : Ends f (f n) d t) : Ends f n d (t + 1)

theorem Ends.stop_ {f : Nat → Nat} {n d t : Nat} (h : Ends f n d t) (hn : n ≤ 9) : n = d ∧ t = 0 := by
  cases h with
  | stop => exact ⟨rfl, rfl⟩
  | step _ _ _ h' _ => omega
theorem Ends.step_ {f : Nat → Nat} {n d t : Nat} (h : Ends f n d t) (hn : 9 < n) : 1 ≤ t ∧ Ends f (f n) d (t - 1) := by
  cases h with
  | stop h' => omega
  | step _ _ _ _ he => exact ⟨by omega, he⟩

theorem ends_is (f : Nat → Nat) (lt : ∀ m, 9 < m → f m < m) (n : Nat) : ∃ d t, Ends f n d t := by
  induction n using Nat.strongRecOn with
  | _ n ih =>
    by_cases h : n ≤ 9
    · exact ⟨n, 0, .stop n h⟩
    · obtain ⟨d, t, he⟩ := ih (f n) (lt n (by omega))
      exact ⟨d, t + 1, .step n d t (by omega) he⟩

theorem ends_le {f : Nat → Nat} (lt : ∀ m, 9 < m → f m < m) (n : Nat) : ∀ {d t}, Ends f n d t → t ≤ n := by
  induction n using Nat.strongRecOn with
  | _ n ih =>
    intro d t h
    by_cases c : n ≤ 9
    · have := h.stop_ c; omega
    · have s := h.step_ (by omega)
      have l := lt n (by omega)
      have := ih (f n) l s.2
      omega

theorem ds_lt_self (n : Nat) (h : 9 < n) : ds n < n := by
  have le : ∀ m, ds m ≤ m := by
    intro m
    induction m using Nat.strongRecOn with
    | _ m ih =>
      by_cases c : m < 10
      · rw [ds_small c]; exact Nat.le_refl _
      · have e : ds m = ds (m / 10) + m % 10 := by rw [ds, if_neg c]
        have := ih (m / 10) (by omega)
        omega
  have e : ds n = ds (n / 10) + n % 10 := by rw [ds, if_neg (by omega)]
  have := le (n / 10)
  omega

theorem dp_lt_self (n : Nat) (h : 9 < n) : dp n < n := by
  have le : ∀ m, dp m ≤ m := by
    intro m
    induction m using Nat.strongRecOn with
    | _ m ih =>
      by_cases c : m < 10
      · rw [dp, if_pos c]; exact Nat.le_refl _
      · have e : dp m = dp (m / 10) * (m % 10) := by rw [dp, if_neg c]
        have := ih (m / 10) (by omega)
        have : dp (m / 10) * (m % 10) ≤ (m / 10) * 9 := Nat.mul_le_mul this (by omega)
        omega
  have e : dp n = dp (n / 10) * (n % 10) := by rw [dp, if_neg (by omega)]
  have := le (n / 10)
  have : dp (n / 10) * (n % 10) ≤ (n / 10) * 9 := Nat.mul_le_mul this (by omega)
  omega

set_option maxHeartbeats 800000 in
theorem untilOne_any (g : Nat) (eg : ∀ args w, (callFunc g args).run Tryd.prog w = .ok (.enter g args) w) (f : Nat → Nat) (n : Nat) (hn : n ≤ 1000000000000) (w : World)
    (hf : ∀ (W : World) (m : Nat), Below w.heap.size w W → m ≤ n → Calls Tryd.prog g #[.int .i64 m] W fun e w' => e = .returned (.int .i64 (f m : Nat)) ∧ Below W.heap.size W w') (lt : ∀ m, 9 < m → f m < m) (d t : Nat) (he : Ends f n d t) :
    Calls Tryd.prog 39 #[.int .i64 n, .func (.func g) #[] #[]] w fun e w' => e = .returned (.tuple #[.int .i64 d, .int .i64 t]) ∧ Below w.heap.size w w' := by
  have HF := Aside0.mk hf
  have tn := ends_le lt n he
  have HE := Aside0.mk he
  have HL := Aside0.mk lt
  clear hf he lt
  go_enter Tryd.func39, Tryd.ntmps39
  go_wp2
  go_loopg [0, 6] (n + 1) (fun gg v0 v6 wr => ∃ m k : Nat, v0 = .int .i64 m ∧ v6 = .int .i64 k ∧ m ≤ n ∧ m < gg ∧ k ≤ t ∧ Aside0 (Ends f m d (t - k)) ∧ Aside0 (Below w.heap.size w wr))
  case atStart => exact ⟨n, 0, rfl, rfl, by omega, by omega, by omega, HE, ⟨Below.refl _ _⟩⟩
  case round =>
    obtain ⟨m, k, rfl, rfl, m1, m2, k1, HM, HB⟩ := hrel
    by_cases c : 9 < m
    · have hl := HL.out m c
      have hs := HM.out.step_ c
      have k2 : k < t := by omega
      have HM2 := Aside0.mk hs.2
      have HCC := Aside0.mk (HF.out wr m HB.out m1)
      clear hs HM
      go_wp2_with (go_at_fn g; refine HCC.out.mono ?_; rintro e w2 ⟨rfl, hb2⟩)
      go_roundg (f m + 1)
      case measure => omega
      case rel => exact ⟨f m, k + 1, rfl, by first | rfl | (congr 1; omega), by omega, by omega, by omega, ⟨by rw [show t - (k + 1) = t - k - 1 by omega]; exact HM2.out⟩, ⟨HB.out.trans (hb2.mono HB.out.size)⟩⟩
    · obtain ⟨e1, e2⟩ := HM.out.stop_ (by omega)
      obtain rfl : k = t := by omega
      subst e1
      clear HM HE
      go_wp2
      go_ret2
      exact ⟨rfl, HB.out⟩

set_option maxHeartbeats 800000 in
theorem DigitRoot_spec (n : Nat) (hn : n ≤ 1000000000000) (d t : Nat) (he : Ends ds n d t) (w : World) : Calls Tryd.prog 19 #[.int .i64 n] w fun e w' => e = .returned (.tuple #[.int .i64 d, .int .i64 t, .bool true]) ∧ Below w.heap.size w w' := by
  have HG := Aside0.mk (fun W => diGood_any n W)
  rw [decide_eq_true (by omega)] at HG
  have HC := Aside0.mk (fun (m : Nat) (hm : m ≤ 1000000000000) W => diSum_any m (by omega) W)
  have tn := ends_le (by first | exact ds_lt_self | exact dp_lt_self) n he
  have HE := Aside0.mk he
  clear he
  go_enter Tryd.func19, Tryd.ntmps19
  go_wp2_with (go_at_call 33; refine (HG.out _).mono ?_; rintro e w1 ⟨rfl, ⟨nd, rfl⟩⟩)
  have HB0 : Aside0 (Below w.heap.size w (w.drewN nd)) := ⟨pw_below_drewN (Below.refl _ w) nd⟩
  go_loopg [0, 5] (n + 1) (fun gg v0 v6 wr => ∃ m k : Nat, v0 = .int .i64 m ∧ v6 = .int .i64 k ∧ m ≤ n ∧ m < gg ∧ k ≤ t ∧ Aside0 (Ends ds m d (t - k)) ∧ Aside0 (Below w.heap.size w wr))
  case atStart => exact ⟨n, 0, rfl, rfl, by omega, by omega, by omega, HE, HB0⟩
  case round =>
    obtain ⟨m, k, rfl, rfl, m1, m2, k1, HM, HB⟩ := hrel
    by_cases c : 9 < m
    · have hl := ds_lt_self m c
      have hs := HM.out.step_ c
      have k2 : k < t := by omega
      have HM2 := Aside0.mk hs.2
      have hcall := HC.out m (by omega)
      have HCC := Aside0.mk hcall
      clear hcall hs HM
      go_wp2_with (go_at_call 37; refine (HCC.out _).mono ?_; rintro e w2 ⟨rfl, hb2⟩)
      go_roundg (ds m + 1)
      case measure => omega
      case rel => exact ⟨ds m, k + 1, rfl, by first | rfl | (congr 1; omega), by omega, by omega, by omega, ⟨by rw [show t - (k + 1) = t - k - 1 by omega]; exact HM2.out⟩, ⟨HB.out.trans (hb2.mono HB.out.size)⟩⟩
    · obtain ⟨e1, e2⟩ := HM.out.stop_ (by omega)
      obtain rfl : k = t := by omega
      subst e1
      clear HM HE
      go_wp2
      go_ret3
      exact ⟨rfl, HB.out⟩

theorem DigitRoot_impl (n : Nat) (hn : n ≤ 1000000000000) (d t : Nat) (he : Ends ds n d t) (w : World) (hT : TI w) : Calls Tryd.prog 20 #[.int .i64 n] w fun e w' => e = .returned (.tuple #[.int .i64 d, .int .i64 t, .bool true]) ∧ Below w.heap.size w w' := by
  have HG := Aside0.mk (fun W => isWritten_any n W)
  rw [decide_eq_true (by omega)] at HG
  have HC := Aside0.mk (fun W (hb : Below w.heap.size w W) => untilOne_any 38 (enters_of Tryd.func38 (by kernel_rfl) rfl) ds n hn W (fun W' m hb' hm => digitSum_any m (by omega) W' (ti_stays (ti_stays hT hb) hb')) ds_lt_self d t he)
  go_enter Tryd.func20, Tryd.ntmps20
  go_wp2_with (first | (go_at_call 35; refine (HG.out _).mono ?_; rintro e w1 ⟨rfl, ⟨nd, rfl⟩⟩) | (go_at_call 39; refine (HC.out _ (pw_below_drewN (Below.refl _ w) _)).mono ?_; rintro e w2 ⟨rfl, hb2⟩))
  go_ret3
  exact ⟨rfl, (pw_below_drewN (Below.refl _ w) nd).trans hb2⟩

theorem DigitRoot_no (n : Int) (h : ¬ (0 ≤ n ∧ n ≤ 1000000000000)) (w : World) : (Calls Tryd.prog 19 #[.int .i64 n] w fun e w' => e = .returned (.tuple #[.int .i64 0, .int .i64 0, .bool false]) ∧ Below w.heap.size w w') ∧ (Calls Tryd.prog 20 #[.int .i64 n] w fun e w' => e = .returned (.tuple #[.int .i64 0, .int .i64 0, .bool false]) ∧ Below w.heap.size w w') := by
  have HG := Aside0.mk (fun W => diGood_any n W)
  have HI := Aside0.mk (fun W => isWritten_any n W)
  rw [decide_eq_false h] at HG HI
  constructor
  · go_enter Tryd.func19, Tryd.ntmps19
    go_wp2_with (go_at_call 33; refine (HG.out _).mono ?_; rintro e w1 ⟨rfl, ⟨nd, rfl⟩⟩)
    go_ret3
    exact ⟨rfl, pw_below_drewN (Below.refl _ w) nd⟩
  · go_enter Tryd.func20, Tryd.ntmps20
    go_wp2_with (go_at_call 35; refine (HI.out _).mono ?_; rintro e w1 ⟨rfl, ⟨nd, rfl⟩⟩)
    go_ret3
    exact ⟨rfl, pw_below_drewN (Below.refl _ w) nd⟩

theorem DigitRoot_over (n d t : Int) (b : Bool) (hs : ∀ W, Calls Tryd.prog 19 #[.int .i64 n] W fun e w' => e = .returned (.tuple #[.int .i64 d, .int .i64 t, .bool b]) ∧ Below W.heap.size W w') (w : World) (hi : ∀ W, Below w.heap.size w W → Calls Tryd.prog 20 #[.int .i64 n] W fun e w' => e = .returned (.tuple #[.int .i64 d, .int .i64 t, .bool b]) ∧ Below W.heap.size W w') :
    Calls Tryd.prog 6 #[.int .i64 n] w fun e w' => e = .returned (.bool true) ∧ Below w.heap.size w w' := by
  have HS := Aside0.mk hs
  have HI := Aside0.mk hi
  clear hs hi
  go_enter Tryd.func6, Tryd.ntmps6
  go_wp2_with (first | (go_at_call 19; refine (HS.out _).mono ?_; rintro e w1 ⟨rfl, hb1⟩) | (go_at_call 20; refine (HI.out _ hb1).mono ?_; rintro e w2 ⟨rfl, hb2⟩))
  go_ret
  exact ⟨rfl, hb1.trans (hb2.mono hb1.size)⟩

theorem DigitRoot_walk (n : Int) (w : World) (hT : TI w) : Calls Tryd.prog 6 #[.int .i64 n] w fun e w' => e = .returned (.bool true) ∧ Below w.heap.size w w' := by
  by_cases h : 0 ≤ n ∧ n ≤ 1000000000000
  · obtain ⟨m, rfl⟩ : ∃ m : Nat, n = m := ⟨n.toNat, by omega⟩
    obtain ⟨d, t, he⟩ := ends_is ds ds_lt_self m
    exact DigitRoot_over m d t true (fun W => DigitRoot_spec m (by omega) d t he W) w (fun W hb => DigitRoot_impl m (by omega) d t he W (ti_stays hT hb))
  · exact DigitRoot_over n 0 0 false (fun W => (DigitRoot_no n h W).1) w (fun W _ => (DigitRoot_no n h W).2)

set_option maxHeartbeats 800000 in
theorem ProductEnd_spec (n : Nat) (hn : n ≤ 1000000000000) (d t : Nat) (he : Ends dp n d t) (w : World) : Calls Tryd.prog 17 #[.int .i64 n] w fun e w' => e = .returned (.tuple #[.int .i64 d, .int .i64 t, .bool true]) ∧ Below w.heap.size w w' := by
  have HG := Aside0.mk (fun W => diGood_any n W)
  rw [decide_eq_true (by omega)] at HG
  have HC := Aside0.mk (fun (m : Nat) (hm : m ≤ 1000000000000) W => diProduct_any m (by omega) W)
  have tn := ends_le (by first | exact ds_lt_self | exact dp_lt_self) n he
  have HE := Aside0.mk he
  clear he
  go_enter Tryd.func17, Tryd.ntmps17
  go_wp2_with (go_at_call 33; refine (HG.out _).mono ?_; rintro e w1 ⟨rfl, ⟨nd, rfl⟩⟩)
  have HB0 : Aside0 (Below w.heap.size w (w.drewN nd)) := ⟨pw_below_drewN (Below.refl _ w) nd⟩
  go_loopg [0, 5] (n + 1) (fun gg v0 v6 wr => ∃ m k : Nat, v0 = .int .i64 m ∧ v6 = .int .i64 k ∧ m ≤ n ∧ m < gg ∧ k ≤ t ∧ Aside0 (Ends dp m d (t - k)) ∧ Aside0 (Below w.heap.size w wr))
  case atStart => exact ⟨n, 0, rfl, rfl, by omega, by omega, by omega, HE, HB0⟩
  case round =>
    obtain ⟨m, k, rfl, rfl, m1, m2, k1, HM, HB⟩ := hrel
    by_cases c : 9 < m
    · have hl := dp_lt_self m c
      have hs := HM.out.step_ c
      have k2 : k < t := by omega
      have HM2 := Aside0.mk hs.2
      have hcall := HC.out m (by omega)
      have HCC := Aside0.mk hcall
      clear hcall hs HM
      go_wp2_with (go_at_call 34; refine (HCC.out _).mono ?_; rintro e w2 ⟨rfl, hb2⟩)
      go_roundg (dp m + 1)
      case measure => omega
      case rel => exact ⟨dp m, k + 1, rfl, by first | rfl | (congr 1; omega), by omega, by omega, by omega, ⟨by rw [show t - (k + 1) = t - k - 1 by omega]; exact HM2.out⟩, ⟨HB.out.trans (hb2.mono HB.out.size)⟩⟩
    · obtain ⟨e1, e2⟩ := HM.out.stop_ (by omega)
      obtain rfl : k = t := by omega
      subst e1
      clear HM HE
      go_wp2
      go_ret3
      exact ⟨rfl, HB.out⟩

theorem ProductEnd_impl (n : Nat) (hn : n ≤ 1000000000000) (d t : Nat) (he : Ends dp n d t) (w : World) (hT : TI w) : Calls Tryd.prog 18 #[.int .i64 n] w fun e w' => e = .returned (.tuple #[.int .i64 d, .int .i64 t, .bool true]) ∧ Below w.heap.size w w' := by
  have HG := Aside0.mk (fun W => isWritten_any n W)
  rw [decide_eq_true (by omega)] at HG
  have HC := Aside0.mk (fun W (hb : Below w.heap.size w W) => untilOne_any 36 (enters_of Tryd.func36 (by kernel_rfl) rfl) dp n hn W (fun W' m hb' hm => digitProduct_any m (by omega) W' (ti_stays (ti_stays hT hb) hb')) dp_lt_self d t he)
  go_enter Tryd.func18, Tryd.ntmps18
  go_wp2_with (first | (go_at_call 35; refine (HG.out _).mono ?_; rintro e w1 ⟨rfl, ⟨nd, rfl⟩⟩) | (go_at_call 39; refine (HC.out _ (pw_below_drewN (Below.refl _ w) _)).mono ?_; rintro e w2 ⟨rfl, hb2⟩))
  go_ret3
  exact ⟨rfl, (pw_below_drewN (Below.refl _ w) nd).trans hb2⟩

theorem ProductEnd_no (n : Int) (h : ¬ (0 ≤ n ∧ n ≤ 1000000000000)) (w : World) : (Calls Tryd.prog 17 #[.int .i64 n] w fun e w' => e = .returned (.tuple #[.int .i64 0, .int .i64 0, .bool false]) ∧ Below w.heap.size w w') ∧ (Calls Tryd.prog 18 #[.int .i64 n] w fun e w' => e = .returned (.tuple #[.int .i64 0, .int .i64 0, .bool false]) ∧ Below w.heap.size w w') := by
  have HG := Aside0.mk (fun W => diGood_any n W)
  have HI := Aside0.mk (fun W => isWritten_any n W)
  rw [decide_eq_false h] at HG HI
  constructor
  · go_enter Tryd.func17, Tryd.ntmps17
    go_wp2_with (go_at_call 33; refine (HG.out _).mono ?_; rintro e w1 ⟨rfl, ⟨nd, rfl⟩⟩)
    go_ret3
    exact ⟨rfl, pw_below_drewN (Below.refl _ w) nd⟩
  · go_enter Tryd.func18, Tryd.ntmps18
    go_wp2_with (go_at_call 35; refine (HI.out _).mono ?_; rintro e w1 ⟨rfl, ⟨nd, rfl⟩⟩)
    go_ret3
    exact ⟨rfl, pw_below_drewN (Below.refl _ w) nd⟩

theorem ProductEnd_over (n d t : Int) (b : Bool) (hs : ∀ W, Calls Tryd.prog 17 #[.int .i64 n] W fun e w' => e = .returned (.tuple #[.int .i64 d, .int .i64 t, .bool b]) ∧ Below W.heap.size W w') (w : World) (hi : ∀ W, Below w.heap.size w W → Calls Tryd.prog 18 #[.int .i64 n] W fun e w' => e = .returned (.tuple #[.int .i64 d, .int .i64 t, .bool b]) ∧ Below W.heap.size W w') :
    Calls Tryd.prog 5 #[.int .i64 n] w fun e w' => e = .returned (.bool true) ∧ Below w.heap.size w w' := by
  have HS := Aside0.mk hs
  have HI := Aside0.mk hi
  clear hs hi
  go_enter Tryd.func5, Tryd.ntmps5
  go_wp2_with (first | (go_at_call 17; refine (HS.out _).mono ?_; rintro e w1 ⟨rfl, hb1⟩) | (go_at_call 18; refine (HI.out _ hb1).mono ?_; rintro e w2 ⟨rfl, hb2⟩))
  go_ret
  exact ⟨rfl, hb1.trans (hb2.mono hb1.size)⟩

theorem ProductEnd_walk (n : Int) (w : World) (hT : TI w) : Calls Tryd.prog 5 #[.int .i64 n] w fun e w' => e = .returned (.bool true) ∧ Below w.heap.size w w' := by
  by_cases h : 0 ≤ n ∧ n ≤ 1000000000000
  · obtain ⟨m, rfl⟩ : ∃ m : Nat, n = m := ⟨n.toNat, by omega⟩
    obtain ⟨d, t, he⟩ := ends_is dp dp_lt_self m
    exact ProductEnd_over m d t true (fun W => ProductEnd_spec m (by omega) d t he W) w (fun W hb => ProductEnd_impl m (by omega) d t he W (ti_stays hT hb))
  · exact ProductEnd_over n 0 0 false (fun W => (ProductEnd_no n h W).1) w (fun W _ => (ProductEnd_no n h W).2)
end Go.Proofs.YtkienapjmgjafaaDoor.HSums
