/-
  NumberOfSum: the reference's search by halves ends at the number that the program's search by digits finds.
-/
import Derived.Test.YtkienapjmgjafaaHDiOfSum
namespace Go.Proofs.Ytkienapjmgjafaa.HSums
open Go.RowKit Go.Proofs.YtkienapjmgjafaaW.PrintWords Go.Proofs.YtkienapjmgjafaaW.PrintLast Go.Proofs.YtkienapjmgjafaaW.PrintMore Go.Proofs.Ytkienapjmgjafaa.PFnExactNumberOfSum
set_option linter.unusedVariables false
set_option linter.unusedSimpArgs false

theorem diOfSum_pos (n : Nat) (n1 : 1 ≤ n) (n2 : n ≤ 1000000000000) (s : Int) (s0 : 1 ≤ s) (s1 : s ≤ 1000000) (w : World) :
    Calls Try.prog 10 #[.int .i64 n, .int .i64 s] w fun e w' => e = .returned (.int .i64 (N s (n + 1) : Nat)) ∧ Below w.heap.size w w' :=
  (diOfSum_any n n1 n2 s (by omega) (by omega) w).mono fun e w' ⟨he, hb⟩ => ⟨by rw [he, if_neg (by omega), Int.sub_zero], hb⟩

set_option maxHeartbeats 800000 in
theorem diOfRank_any (T : Nat) (hT : T = 1000000000001) (s rank : Int) (s0 : 1 ≤ s) (s1 : s ≤ 108) (k0 : 0 ≤ rank) (r : Int) (b : Bool) (ht : Told T s rank r b) (w : World) :
    Calls Try.prog 7 #[.int .i64 s, .int .i64 rank] w fun e w' => e = .returned (.tuple #[.int .i64 r, .bool b]) ∧ Below w.heap.size w w' := by
  obtain ⟨M, hM⟩ : ∃ M : Nat, T = M + 1 := ⟨T - 1, by omega⟩
  have HA := Aside0.mk (fun W => diOfSum_pos M (by omega) (by omega) s s0 (by omega) W)
  rw [show (M : Int) = 1000000000000 by omega, ← hM] at HA
  have HC := Aside0.mk (fun (n : Nat) (n1 : 1 ≤ n) (n2 : n ≤ 1000000000000) W => diOfSum_pos n n1 n2 s s0 (by omega) W)
  by_cases h : (N s T : Int) ≤ rank
  · obtain ⟨rfl, rfl⟩ := told_one hT ht (show Told T s rank 0 false from .inl ⟨rfl, rfl, .inr (.inr h)⟩)
    clear ht hT hM
    go_enter Try.func7, Try.ntmps7
    go_wp2_with (go_at_call 10; refine (HA.out _).mono ?_; rintro e w1 ⟨rfl, hb1⟩)
    go_ret2
    exact ⟨rfl, hb1⟩
  · have HT := Aside0.mk ht
    have z : (N s 1 : Int) = 0 := by rw [N, N, ds_small (by omega), if_neg (by omega)]; rfl
    have Z := Aside0.mk z
    have HT0 := Aside0.mk hT
    have HM0 := Aside0.mk hM
    have mle : M = 1000000000000 := by omega
    have TM : T ≤ 1000000000001 := by omega
    have tn : 1000000000000 - 1 ≤ T := by omega
    have ML := Aside0.mk mle
    clear ht z hT hM mle
    go_enter Try.func7, Try.ntmps7
    go_wp2_with (go_at_call 10; refine (HA.out _).mono ?_; rintro e w1 ⟨rfl, hb1⟩)
    go_loopg [6, 7] T (fun gg v6 v7 wr => ∃ l h : Nat, v6 = .int .i64 l ∧ v7 = .int .i64 h ∧ 1 ≤ l ∧ l ≤ h ∧ h ≤ 1000000000000 ∧ h - l ≤ gg ∧ Aside0 ((N s l : Int) ≤ rank) ∧ Aside0 (rank < (N s (h + 1) : Nat)) ∧ Aside0 (Below w.heap.size w wr))
    case atStart => exact ⟨1, M, rfl, by rw [ML.out]; rfl, by omega, by have := ML.out; omega, by have := ML.out; omega, by have := ML.out; omega, ⟨by rw [Z.out]; omega⟩, ⟨by rw [← HM0.out]; omega⟩, ⟨hb1⟩⟩
    case round =>
      obtain ⟨l, hh, rfl, rfl, a1, a2, a3, a4, A5, A6, HB⟩ := hrel
      by_cases c : l < hh
      · have hcall := HC.out ((l + hh) / 2) (by omega) (by omega)
        obtain ⟨m, hm⟩ : ∃ m, m = (l + hh) / 2 := ⟨_, rfl⟩
        rw [← hm] at hcall
        have HCC := Aside0.mk hcall
        have m0 : ((l : Int) + hh) / 2 = m := by omega
        have m1 : l ≤ m := by omega
        have m2 : m < hh := by omega
        have HM := Aside0.mk hm
        clear hcall hm
        by_cases c2 : rank < (N s (m + 1) : Nat)
        · go_wp2_with (go_at_call 10; refine (HCC.out _).mono ?_; rintro e w2 ⟨rfl, hb2⟩)
          go_roundg (m - l)
          case measure => omega
          case rel => exact ⟨l, m, rfl, by first | rfl | rw [m0], a1, m1, by omega, by omega, A5, ⟨c2⟩, ⟨HB.out.trans (hb2.mono HB.out.size)⟩⟩
        · go_wp2_with (go_at_call 10; refine (HCC.out _).mono ?_; rintro e w2 ⟨rfl, hb2⟩)
          go_roundg (hh - (m + 1))
          case measure => omega
          case rel => exact ⟨m + 1, hh, by first | go_num | (rw [m0]; rfl), rfl, by omega, by omega, a3, by omega, ⟨by omega⟩, A6, ⟨HB.out.trans (hb2.mono HB.out.size)⟩⟩
      · obtain rfl : l = hh := by omega
        obtain ⟨rfl, rfl⟩ := told_one HT0.out HT.out (show Told T s rank l true from .inr ⟨rfl, s0, s1, l, rfl, a3, A5.out, A6.out⟩)
        clear HT
        go_wp2
        go_ret2
        exact ⟨rfl, HB.out⟩

theorem spec_any (T : Nat) (hT : T = 1000000000001) (s rank : Int) (r : Int) (b : Bool) (ht : Told T s rank r b) (w : World) :
    Calls Try.prog 4 #[.int .i64 s, .int .i64 rank] w fun e w' => e = .returned (.tuple #[.int .i64 r, .bool b]) ∧ Below w.heap.size w w' := by
  have fl : spec_l1In.f s 1 108 = some (decide (1 ≤ s ∧ s ≤ 108)) := by
    unfold spec_l1In.f
    by_cases c : s ≥ 1
    · rw [if_pos c]; simp [show 1 ≤ s from c]
    · rw [if_neg c, decide_eq_false (by omega)]
  by_cases h : 1 ≤ s ∧ s ≤ 108
  · rw [decide_eq_true h] at fl
    have HI := Aside0.mk (fun W => spec_l1In.calls s 1 108 true W fl)
    by_cases k : rank < 0
    · obtain ⟨rfl, rfl⟩ := told_one hT ht (show Told T s rank 0 false from .inl ⟨rfl, rfl, .inr (.inl k)⟩)
      clear ht fl
      go_enter Try.func4, Try.ntmps4
      go_wp2_with (go_at_call 6; refine (HI.out _).mono ?_; rintro e w1 ⟨rfl, ⟨nd, rfl⟩⟩)
      go_ret2
      exact ⟨rfl, pw_below_drewN (Below.refl _ w) nd⟩
    · have HR := Aside0.mk (fun W => diOfRank_any T hT s rank h.1 h.2 (by omega) r b ht W)
      clear ht fl
      go_enter Try.func4, Try.ntmps4
      go_wp2_with (first | (go_at_call 6; refine (HI.out _).mono ?_; rintro e w1 ⟨rfl, ⟨nd, rfl⟩⟩) | (go_at_call 7; refine (HR.out _).mono ?_; rintro e w2 ⟨rfl, hb2⟩))
      go_ret2
      exact ⟨rfl, (pw_below_drewN (Below.refl _ w) nd).trans hb2⟩
  · rw [decide_eq_false h] at fl
    have HI := Aside0.mk (fun W => spec_l1In.calls s 1 108 false W fl)
    obtain ⟨rfl, rfl⟩ := told_one hT ht (show Told T s rank 0 false from .inl ⟨rfl, rfl, .inl h⟩)
    clear ht fl
    go_enter Try.func4, Try.ntmps4
    go_wp2_with (go_at_call 6; refine (HI.out _).mono ?_; rintro e w1 ⟨rfl, ⟨nd, rfl⟩⟩)
    go_ret2
    exact ⟨rfl, pw_below_drewN (Below.refl _ w) nd⟩

theorem law_over (s rank : Int) (r : Int) (b : Bool) (hs : ∀ W, Calls Try.prog 4 #[.int .i64 s, .int .i64 rank] W fun e w' => e = .returned (.tuple #[.int .i64 r, .bool b]) ∧ Below W.heap.size W w') (hi : ∀ W, Calls Try.prog 5 #[.int .i64 s, .int .i64 rank] W fun e w' => e = .returned (.tuple #[.int .i64 r, .bool b]) ∧ Below W.heap.size W w') (w : World) :
    Calls Try.prog 3 #[.int .i64 s, .int .i64 rank] w fun e w' => e = .returned (.bool true) ∧ Below w.heap.size w w' := by
  have HS := Aside0.mk hs
  have HI := Aside0.mk hi
  clear hs hi
  go_enter Try.func3, Try.ntmps3
  go_wp2_with (first | (go_at_call 4; refine (HS.out _).mono ?_; rintro e w1 ⟨rfl, hb1⟩) | (go_at_call 5; refine (HI.out _).mono ?_; rintro e w2 ⟨rfl, hb2⟩))
  go_ret
  exact ⟨rfl, hb1.trans (hb2.mono hb1.size)⟩

theorem walk (s rank : Int) (w : World) : Calls Try.prog 3 #[.int .i64 s, .int .i64 rank] w fun e w' => e = .returned (.bool true) ∧ Below w.heap.size w w' := by
  obtain ⟨T, hT⟩ : ∃ T : Nat, T = 1000000000001 := ⟨_, rfl⟩
  obtain ⟨k, r, b, e, ht⟩ := numberOfSum_told T hT s rank
  exact law_over s rank r b (fun W => spec_any T hT s rank r b ht W) (fun W => impl_NumberOfSum.calls k s rank r b W e) w
end Go.Proofs.Ytkienapjmgjafaa.HSums
