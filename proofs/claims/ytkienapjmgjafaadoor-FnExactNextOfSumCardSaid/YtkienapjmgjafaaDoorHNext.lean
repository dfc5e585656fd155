/-
  CountOfSum, NextOfSum: the laws' walks.
-/
import Derived.Test.YtkienapjmgjafaaDoorHBelow
namespace Go.Proofs.YtkienapjmgjafaaDoor.HSums
open Go.RowKit Go.Proofs.YtkienapjmgjafaaDoorW.PrintWords Go.Proofs.YtkienapjmgjafaaDoorW.PrintLast Go.Proofs.YtkienapjmgjafaaDoorW.PrintMore Go.Proofs.YtkienapjmgjafaaDoor.PNumberOfSum Go.Proofs.YtkienapjmgjafaaDoor.PdiSum Go.Proofs.YtkienapjmgjafaaDoor.PtkOf Go.Proofs.YtkienapjmgjafaaDoor.PtkWays Go.Proofs.YtkienapjmgjafaaDoor.Pl1In
open Go.Lib (decDigits)
set_option linter.unusedVariables false
set_option linter.unusedSimpArgs false

theorem l1In_tells (a b c : Int) (w : World) : Calls Tryd.prog 44 #[.int .i64 a, .int .i64 b, .int .i64 c] w fun e w' => e = .returned (.bool (decide (b ≤ a ∧ a ≤ c))) ∧ Drawn0 w w' :=
  PdiDigit.spec_l1In.calls a b c _ w (by
    unfold PdiDigit.spec_l1In.f
    by_cases h : a ≥ b
    · rw [if_pos h]; congr 1; simp; omega
    · rw [if_neg h]; congr 1; simp; omega)
theorem within_tells (a b c : Int) (w : World) : Calls Tryd.prog 49 #[.int .i64 a, .int .i64 b, .int .i64 c] w fun e w' => e = .returned (.bool (decide (b ≤ a ∧ a ≤ c))) ∧ Drawn0 w w' :=
  PisDigit.impl_within.calls a b c _ w (by
    unfold PisDigit.impl_within.f
    by_cases h : b ≤ a
    · rw [if_pos h]; congr 1; simp; omega
    · rw [if_neg h]; congr 1; simp; omega)

theorem ds_pos (n : Nat) (h : 1 ≤ n) : 1 ≤ ds n := by
  induction n using Nat.strongRecOn with
  | _ n ih =>
    by_cases c : n < 10
    · rw [ds_small c]; exact h
    · have e : ds n = ds (n / 10) + n % 10 := by rw [ds, if_neg c]
      have := ih (n / 10) (by omega) (by omega)
      omega

theorem N_zero (n : Nat) : N 0 (n + 1) = 1 := by
  induction n with
  | zero => rw [N, N, ds_small (by omega)]; rfl
  | succ n ih =>
    have := ds_pos (n + 1) (by omega)
    rw [N, ih, if_neg (by omega)]

theorem ds_108 (n : Nat) (h : n ≤ 1000000000000) : ds n ≤ 108 := by
  rcases Nat.lt_or_ge n 1000000000000 with c | c
  · have := ds_le n
    have := dd_len (n := n) 12 (by omega) (by omega)
    omega
  · obtain rfl : n = 1000000000000 := by omega
    have e : ∀ k, ds (10 ^ k) = 1 := by
      intro k
      induction k with
      | zero => rw [Nat.pow_zero, ds_small (by omega)]
      | succ k ih => rw [Nat.pow_succ', show 10 * 10 ^ k = 10 * 10 ^ k + 0 from rfl, ds_step (10 ^ k) 0 (by omega), ih]
    have e12 := e 12
    rw [show (10 : Nat) ^ 12 = 1000000000000 from rfl] at e12
    omega

theorem of_wf_i64 {n : Int} (h : (Lit.int .i64 n).wf = true) : -9223372036854775808 ≤ n ∧ n ≤ 9223372036854775807 := by
  simp [Lit.wf, IntKind.min, IntKind.max, IntKind.signed, IntKind.bits] at h
  omega

theorem diOfSum_pos (n : Nat) (n1 : 1 ≤ n) (n2 : n ≤ 1000000000000) (s : Int) (s0 : 1 ≤ s) (s1 : s ≤ 1000000) (w : World) :
    Calls Tryd.prog 53 #[.int .i64 n, .int .i64 s] w fun e w' => e = .returned (.int .i64 (N s (n + 1) : Nat)) ∧ Below w.heap.size w w' :=
  (diOfSum_any n n1 n2 s (by omega) (by omega) w).mono fun e w' ⟨he, hb⟩ => ⟨by rw [he, if_neg (by omega), Int.sub_zero], hb⟩

set_option maxHeartbeats 800000 in
theorem diOfRank_any (T : Nat) (hT : T = 1000000000001) (s rank : Int) (s0 : 1 ≤ s) (s1 : s ≤ 108) (k0 : 0 ≤ rank) (r : Int) (b : Bool) (ht : Told T s rank r b) (w : World) :
    Calls Tryd.prog 55 #[.int .i64 s, .int .i64 rank] w fun e w' => e = .returned (.tuple #[.int .i64 r, .bool b]) ∧ Below w.heap.size w w' := by
  obtain ⟨M, hM⟩ : ∃ M : Nat, T = M + 1 := ⟨T - 1, by omega⟩
  have HA := Aside0.mk (fun W => diOfSum_pos M (by omega) (by omega) s s0 (by omega) W)
  rw [show (M : Int) = 1000000000000 by omega, ← hM] at HA
  have HC := Aside0.mk (fun (n : Nat) (n1 : 1 ≤ n) (n2 : n ≤ 1000000000000) W => diOfSum_pos n n1 n2 s s0 (by omega) W)
  by_cases h : (N s T : Int) ≤ rank
  · obtain ⟨rfl, rfl⟩ := told_one hT ht (show Told T s rank 0 false from .inl ⟨rfl, rfl, .inr (.inr h)⟩)
    clear ht hT hM
    go_enter Tryd.func55, Tryd.ntmps55
    go_wp2_with (go_at_call 53; refine (HA.out _).mono ?_; rintro e w1 ⟨rfl, hb1⟩)
    go_ret2
    exact ⟨rfl, hb1⟩
  · have HT := Aside0.mk ht
    have z : (N s 1 : Int) = 0 := by rw [N, N, ds_small (by omega), if_neg (by omega)]; rfl
    have Z := Aside0.mk z
    have HT0 := Aside0.mk hT
    have HM0 := Aside0.mk hM
    have mle : M = 1000000000000 := by omega
    have TM : T ≤ 1000000000001 := by omega
    have tn : 1000000000000 - 1 ≤ T := by omega
    have ML := Aside0.mk mle
    clear ht z hT hM mle
    go_enter Tryd.func55, Tryd.ntmps55
    go_wp2_with (go_at_call 53; refine (HA.out _).mono ?_; rintro e w1 ⟨rfl, hb1⟩)
    go_loopg [6, 7] T (fun gg v6 v7 wr => ∃ l h : Nat, v6 = .int .i64 l ∧ v7 = .int .i64 h ∧ 1 ≤ l ∧ l ≤ h ∧ h ≤ 1000000000000 ∧ h - l ≤ gg ∧ Aside0 ((N s l : Int) ≤ rank) ∧ Aside0 (rank < (N s (h + 1) : Nat)) ∧ Aside0 (Below w.heap.size w wr))
    case atStart => exact ⟨1, M, rfl, by rw [ML.out]; rfl, by omega, by have := ML.out; omega, by have := ML.out; omega, by have := ML.out; omega, ⟨by rw [Z.out]; omega⟩, ⟨by rw [← HM0.out]; omega⟩, ⟨hb1⟩⟩
    case round =>
      obtain ⟨l, hh, rfl, rfl, a1, a2, a3, a4, A5, A6, HB⟩ := hrel
      by_cases c : l < hh
      · have hcall := HC.out ((l + hh) / 2) (by omega) (by omega)
        obtain ⟨m, hm⟩ : ∃ m, m = (l + hh) / 2 := ⟨_, rfl⟩
        rw [← hm] at hcall
        have HCC := Aside0.mk hcall
        have m0 : ((l : Int) + hh) / 2 = m := by omega
        have m1 : l ≤ m := by omega
        have m2 : m < hh := by omega
        have HM := Aside0.mk hm
        clear hcall hm
        by_cases c2 : rank < (N s (m + 1) : Nat)
        · go_wp2_with (go_at_call 53; refine (HCC.out _).mono ?_; rintro e w2 ⟨rfl, hb2⟩)
          go_roundg (m - l)
          case measure => omega
          case rel => exact ⟨l, m, rfl, by first | rfl | rw [m0], a1, m1, by omega, by omega, A5, ⟨c2⟩, ⟨HB.out.trans (hb2.mono HB.out.size)⟩⟩
        · go_wp2_with (go_at_call 53; refine (HCC.out _).mono ?_; rintro e w2 ⟨rfl, hb2⟩)
          go_roundg (hh - (m + 1))
          case measure => omega
          case rel => exact ⟨m + 1, hh, by first | go_num | (rw [m0]; rfl), rfl, by omega, by omega, a3, by omega, ⟨by omega⟩, A6, ⟨HB.out.trans (hb2.mono HB.out.size)⟩⟩
      · obtain rfl : l = hh := by omega
        obtain ⟨rfl, rfl⟩ := told_one HT0.out HT.out (show Told T s rank l true from .inr ⟨rfl, s0, s1, l, rfl, a3, A5.out, A6.out⟩)
        clear HT
        go_wp2
        go_ret2
        exact ⟨rfl, HB.out⟩


/-- what both sides tell of a number and a sum -/
def cs (n : Nat) (s : Int) : Int := (N s (n + 1) : Int) - if s = 0 then 1 else 0

theorem CountOfSum_yes (n : Nat) (hn : n ≤ 1000000000000) (s : Int) (s0 : 0 ≤ s) (s1 : s ≤ 9223372036854775807) (w : World) (hT : TI w) :
    (Calls Tryd.prog 29 #[.int .i64 n, .int .i64 s] w fun e w' => e = .returned (.tuple #[.int .i64 (cs n s), .bool true]) ∧ Below w.heap.size w w') ∧
    (Calls Tryd.prog 30 #[.int .i64 n, .int .i64 s] w fun e w' => e = .returned (.tuple #[.int .i64 (cs n s), .bool true]) ∧ Below w.heap.size w w') := by
  have HG := Aside0.mk (diGood_any n)
  have HG' := Aside0.mk (isWritten_any n)
  rw [decide_eq_true (by omega)] at HG HG'
  have HC := Aside0.mk (fun W => diOfSum_all n hn s s0 s1 W)
  have HB := Aside0.mk (fun W (hb : Below w.heap.size w W) => below_any (n + 1) (by omega) s s0 s1 W (ti_stays hT hb))
  rw [show ((n + 1 : Nat) : Int) = (n : Int) + 1 by omega] at HB
  constructor
  · unfold cs
    generalize ((N s (n + 1) : Int) - if s = 0 then 1 else 0) = v at HC ⊢
    clear HB
    go_enter Tryd.func29, Tryd.ntmps29
    go_wp2_with (first | (go_at_call 33; refine (HG.out _).mono ?_; rintro e w1 ⟨rfl, ⟨nd, rfl⟩⟩) | (go_at_call 53; refine (HC.out _).mono ?_; rintro e w2 ⟨rfl, hb2⟩))
    go_ret2
    exact ⟨rfl, (pw_below_drewN (Below.refl _ w) _).trans hb2⟩
  · by_cases z : s = 0
    · subst z
      have e : cs n 0 = 0 := by unfold cs; rw [N_zero]; rfl
      rw [e]
      clear HB HC
      go_enter Tryd.func30, Tryd.ntmps30
      go_wp2_with (go_at_call 35; refine (HG'.out _).mono ?_; rintro e w1 ⟨rfl, ⟨nd, rfl⟩⟩)
      go_ret2
      exact ⟨rfl, pw_below_drewN (Below.refl _ w) _⟩
    · have e : cs n s = (N s (n + 1) : Nat) := by unfold cs; rw [if_neg z, Int.sub_zero]
      rw [e]
      clear HC e
      generalize N s (n + 1) = v at HB ⊢
      go_enter Tryd.func30, Tryd.ntmps30
      go_wp2_with (first | (go_at_call 35; refine (HG'.out _).mono ?_; rintro e w1 ⟨rfl, ⟨nd, rfl⟩⟩) | (go_at_call 54; refine (HB.out _ (pw_below_drewN (Below.refl _ w) _)).mono ?_; rintro e w2 ⟨rfl, hb2⟩))
      go_ret2
      exact ⟨rfl, (pw_below_drewN (Below.refl _ w) _).trans hb2⟩

theorem CountOfSum_no (n s : Int) (h : ¬ ((0 ≤ n ∧ n ≤ 1000000000000) ∧ 0 ≤ s)) (w : World) :
    (Calls Tryd.prog 29 #[.int .i64 n, .int .i64 s] w fun e w' => e = .returned (.tuple #[.int .i64 0, .bool false]) ∧ Below w.heap.size w w') ∧
    (Calls Tryd.prog 30 #[.int .i64 n, .int .i64 s] w fun e w' => e = .returned (.tuple #[.int .i64 0, .bool false]) ∧ Below w.heap.size w w') := by
  have HG := Aside0.mk (diGood_any n)
  have HG' := Aside0.mk (isWritten_any n)
  by_cases h1 : 0 ≤ n ∧ n ≤ 1000000000000
  · have h2 : s < 0 := by
      rcases Int.lt_or_le s 0 with c | c
      · exact c
      · exact absurd ⟨h1, c⟩ h
    rw [decide_eq_true h1] at HG HG'
    clear h
    constructor
    · go_enter Tryd.func29, Tryd.ntmps29
      go_wp2_with (go_at_call 33; refine (HG.out _).mono ?_; rintro e w1 ⟨rfl, ⟨nd, rfl⟩⟩)
      go_ret2
      exact ⟨rfl, pw_below_drewN (Below.refl _ w) _⟩
    · go_enter Tryd.func30, Tryd.ntmps30
      go_wp2_with (go_at_call 35; refine (HG'.out _).mono ?_; rintro e w1 ⟨rfl, ⟨nd, rfl⟩⟩)
      go_ret2
      exact ⟨rfl, pw_below_drewN (Below.refl _ w) _⟩
  · rw [decide_eq_false h1] at HG HG'
    clear h
    constructor
    · go_enter Tryd.func29, Tryd.ntmps29
      go_wp2_with (go_at_call 33; refine (HG.out _).mono ?_; rintro e w1 ⟨rfl, ⟨nd, rfl⟩⟩)
      go_ret2
      exact ⟨rfl, pw_below_drewN (Below.refl _ w) _⟩
    · go_enter Tryd.func30, Tryd.ntmps30
      go_wp2_with (go_at_call 35; refine (HG'.out _).mono ?_; rintro e w1 ⟨rfl, ⟨nd, rfl⟩⟩)
      go_ret2
      exact ⟨rfl, pw_below_drewN (Below.refl _ w) _⟩

theorem CountOfSum_over (n d v : Int) (b : Bool) (w : World) (hs : ∀ W, Below w.heap.size w W → Calls Tryd.prog 29 #[.int .i64 n, .int .i64 d] W fun e w' => e = .returned (.tuple #[.int .i64 v, .bool b]) ∧ Below W.heap.size W w') (hi : ∀ W, Below w.heap.size w W → Calls Tryd.prog 30 #[.int .i64 n, .int .i64 d] W fun e w' => e = .returned (.tuple #[.int .i64 v, .bool b]) ∧ Below W.heap.size W w') :
    Calls Tryd.prog 11 #[.int .i64 n, .int .i64 d] w fun e w' => e = .returned (.bool true) ∧ Below w.heap.size w w' := by
  have HS := Aside0.mk hs
  have HI := Aside0.mk hi
  clear hs hi
  go_enter Tryd.func11, Tryd.ntmps11
  go_wp2_with (first | (go_at_call 29; refine (HS.out _ (Below.refl _ w)).mono ?_; rintro e w1 ⟨rfl, hb1⟩) | (go_at_call 30; refine (HI.out _ hb1).mono ?_; rintro e w2 ⟨rfl, hb2⟩))
  go_ret
  exact ⟨rfl, hb1.trans (hb2.mono hb1.size)⟩

theorem CountOfSum_walk (n s : Int) (w : World) (hT : TI w) (wn : (Lit.int .i64 n).wf = true) (ws : (Lit.int .i64 s).wf = true) : Calls Tryd.prog 11 #[.int .i64 n, .int .i64 s] w fun e w' => e = .returned (.bool true) ∧ Below w.heap.size w w' := by
  have s1 : s ≤ 9223372036854775807 := (of_wf_i64 ws).2
  by_cases h : (0 ≤ n ∧ n ≤ 1000000000000) ∧ 0 ≤ s
  · obtain ⟨m, rfl⟩ : ∃ m : Nat, n = m := ⟨n.toNat, by omega⟩
    exact CountOfSum_over m s _ true w (fun W hb => (CountOfSum_yes m (by omega) s h.2 s1 W (ti_stays hT hb)).1) (fun W hb => (CountOfSum_yes m (by omega) s h.2 s1 W (ti_stays hT hb)).2)
  · exact CountOfSum_over n s 0 false w (fun W hb => (CountOfSum_no n s h W).1) (fun W hb => (CountOfSum_no n s h W).2)

/-! ### NextOfSum -/
theorem NextOfSum_yes (n : Nat) (n1 : 1 ≤ n) (hn : n ≤ 1000000000000) (w : World) (hT : TI w) :
    ∃ r b, (∀ W, Below w.heap.size w W → Calls Tryd.prog 31 #[.int .i64 n] W fun e w' => e = .returned (.tuple #[.int .i64 r, .bool b]) ∧ Below W.heap.size W w') ∧
    (∀ W, Below w.heap.size w W → Calls Tryd.prog 32 #[.int .i64 n] W fun e w' => e = .returned (.tuple #[.int .i64 r, .bool b]) ∧ Below W.heap.size W w') := by
  obtain ⟨T, hTT⟩ : ∃ T : Nat, T = 1000000000001 := ⟨_, rfl⟩
  have p1 := ds_pos n n1
  have p2 := ds_108 n hn
  obtain ⟨k, r, b, e, ht⟩ := numberOfSum_told T hTT (ds n : Nat) (N (ds n : Nat) (n + 1) : Nat)
  refine ⟨r, b, fun W hb => ?_, fun W hb => ?_⟩
  · have HG := Aside0.mk (fun W => l1In_tells n 1 1000000000000 W)
    rw [decide_eq_true (by omega)] at HG
    have HS := Aside0.mk (fun W => diSum_any n (by omega) W)
    have HC := Aside0.mk (fun W => diOfSum_pos n n1 hn (ds n : Nat) (by omega) (by omega) W)
    have HR := Aside0.mk (fun W => diOfRank_any T hTT (ds n : Nat) (N (ds n : Nat) (n + 1) : Nat) (by omega) (by omega) (by omega) r b ht W)
    clear ht e
    generalize N (ds n : Nat) (n + 1) = v at HC HR
    generalize ds n = s at HS HC HR p1 p2
    go_enter Tryd.func31, Tryd.ntmps31
    go_wp2_with (first | (go_at_call 44; refine (HG.out _).mono ?_; rintro e w1 ⟨rfl, ⟨nd, rfl⟩⟩) | (go_at_call 37; refine (HS.out _).mono ?_; rintro e w2 ⟨rfl, hb2⟩) | (go_at_call 53; refine (HC.out _).mono ?_; rintro e w3 ⟨rfl, hb3⟩) | (go_at_call 55; refine (HR.out _).mono ?_; rintro e w4 ⟨rfl, hb4⟩))
    go_ret2
    rename_i v1 hv1
    have b1 := (pw_below_drewN (Below.refl _ W) _).trans hv1
    have b2 := b1.trans (hb2.mono b1.size)
    have b3 := b2.trans (hb3.mono b2.size)
    exact ⟨rfl, b3.trans (hb4.mono b3.size)⟩
  · have HG := Aside0.mk (fun W => within_tells n 1 1000000000000 W)
    rw [decide_eq_true (by omega)] at HG
    have HS := Aside0.mk (fun W' (hb' : Below W.heap.size W W') => digitSum_any n (by omega) W' (ti_stays (ti_stays hT hb) hb'))
    have HC := Aside0.mk (fun W' (hb' : Below W.heap.size W W') => below_any (n + 1) (by omega) (ds n : Nat) (by omega) (by omega) W' (ti_stays (ti_stays hT hb) hb'))
    rw [show ((n + 1 : Nat) : Int) = (n : Int) + 1 by omega] at HC
    have HR := Aside0.mk (fun W => impl_NumberOfSum.calls k (ds n : Nat) (N (ds n : Nat) (n + 1) : Nat) r b W e)
    clear ht e
    generalize N (ds n : Nat) (n + 1) = v at HC HR
    generalize ds n = s at HS HC HR p1 p2
    go_enter Tryd.func32, Tryd.ntmps32
    go_wp2_with (first | (go_at_call 49; refine (HG.out _).mono ?_; rintro e w1 ⟨rfl, ⟨nd, rfl⟩⟩) | (go_at_call 38; first | (refine (HS.out _ HB2.out).mono ?_; rintro e w3 ⟨rfl, hb3⟩; have HB3 := Aside0.mk (HB2.out.trans (hb3.mono HB2.out.size)); clear hb3) | (refine (HS.out _ (pw_below_drewN (Below.refl _ W) _)).mono ?_; rintro e w2 ⟨rfl, hb2⟩; have HB2 := Aside0.mk ((pw_below_drewN (Below.refl _ W) _).trans hb2); clear hb2)) | (go_at_call 54; refine (HC.out _ HB3.out).mono ?_; rintro e w4 ⟨rfl, hb4⟩; have HB4 := Aside0.mk (HB3.out.trans (hb4.mono HB3.out.size)); clear hb4) | (go_at_call 56; refine (HR.out _).mono ?_; rintro e w5 ⟨rfl, hb5⟩))
    go_ret2
    exact ⟨rfl, HB4.out.trans (hb5.mono HB4.out.size)⟩

theorem NextOfSum_no (n : Int) (h : ¬ (1 ≤ n ∧ n ≤ 1000000000000)) (w : World) :
    (Calls Tryd.prog 31 #[.int .i64 n] w fun e w' => e = .returned (.tuple #[.int .i64 0, .bool false]) ∧ Below w.heap.size w w') ∧
    (Calls Tryd.prog 32 #[.int .i64 n] w fun e w' => e = .returned (.tuple #[.int .i64 0, .bool false]) ∧ Below w.heap.size w w') := by
  have HG := Aside0.mk (fun W => l1In_tells n 1 1000000000000 W)
  have HI := Aside0.mk (fun W => within_tells n 1 1000000000000 W)
  rw [decide_eq_false h] at HG HI
  constructor
  · go_enter Tryd.func31, Tryd.ntmps31
    go_wp2_with (go_at_call 44; refine (HG.out _).mono ?_; rintro e w1 ⟨rfl, ⟨nd, rfl⟩⟩)
    go_ret2
    exact ⟨rfl, pw_below_drewN (Below.refl _ w) nd⟩
  · go_enter Tryd.func32, Tryd.ntmps32
    go_wp2_with (go_at_call 49; refine (HI.out _).mono ?_; rintro e w1 ⟨rfl, ⟨nd, rfl⟩⟩)
    go_ret2
    exact ⟨rfl, pw_below_drewN (Below.refl _ w) nd⟩

theorem NextOfSum_over (n v : Int) (b : Bool) (w : World) (hs : ∀ W, Below w.heap.size w W → Calls Tryd.prog 31 #[.int .i64 n] W fun e w' => e = .returned (.tuple #[.int .i64 v, .bool b]) ∧ Below W.heap.size W w') (hi : ∀ W, Below w.heap.size w W → Calls Tryd.prog 32 #[.int .i64 n] W fun e w' => e = .returned (.tuple #[.int .i64 v, .bool b]) ∧ Below W.heap.size W w') :
    Calls Tryd.prog 12 #[.int .i64 n] w fun e w' => e = .returned (.bool true) ∧ Below w.heap.size w w' := by
  have HS := Aside0.mk hs
  have HI := Aside0.mk hi
  clear hs hi
  go_enter Tryd.func12, Tryd.ntmps12
  go_wp2_with (first | (go_at_call 31; refine (HS.out _ (Below.refl _ w)).mono ?_; rintro e w1 ⟨rfl, hb1⟩) | (go_at_call 32; refine (HI.out _ hb1).mono ?_; rintro e w2 ⟨rfl, hb2⟩))
  go_ret
  exact ⟨rfl, hb1.trans (hb2.mono hb1.size)⟩

theorem NextOfSum_walk (n : Int) (w : World) (hT : TI w) : Calls Tryd.prog 12 #[.int .i64 n] w fun e w' => e = .returned (.bool true) ∧ Below w.heap.size w w' := by
  by_cases h : 1 ≤ n ∧ n ≤ 1000000000000
  · obtain ⟨m, rfl⟩ : ∃ m : Nat, n = m := ⟨n.toNat, by omega⟩
    obtain ⟨r, b, hs, hi⟩ := NextOfSum_yes m (by omega) (by omega) w hT
    exact NextOfSum_over m r b w hs hi
  · exact NextOfSum_over n 0 false w (fun W hb => (NextOfSum_no n h W).1) (fun W hb => (NextOfSum_no n h W).2)
end Go.Proofs.YtkienapjmgjafaaDoor.HSums
