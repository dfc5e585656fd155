/-
  CountWithout, CounterShows, CountOfCounter: the laws' walks.
-/
import Derived.Test.YtkienapjmgjafaaDoorHDiWithout
import Derived.Test.YtkienapjmgjafaaDoorHLeast
import Derived.Deep.RegionWith
import Derived.BigQuiet
import Derived.Lib.IndexLaws
namespace Go.Proofs.YtkienapjmgjafaaDoor.HSums
open Go.RowKit Go.Proofs.YtkienapjmgjafaaDoorW.PrintWords Go.Proofs.YtkienapjmgjafaaDoorW.PrintLast Go.Proofs.YtkienapjmgjafaaDoorW.PrintMore Go.Proofs.YtkienapjmgjafaaDoor.PNumberOfSum Go.Proofs.YtkienapjmgjafaaDoor.PdiSum Go.Proofs.YtkienapjmgjafaaDoor.PtkOf Go.Proofs.YtkienapjmgjafaaDoor.PtkWays Go.Proofs.YtkienapjmgjafaaDoor.Pl1In Go.Proofs.YtkienapjmgjafaaDoor.PsumOf
open Go.Lib (decDigits)
open Wo HLeast
set_option linter.unusedVariables false
set_option linter.unusedSimpArgs false

theorem diDigit_any (n : Int) (w : World) : Calls Tryd.prog 40 #[.int .i64 n] w fun e w' => e = .returned (.bool (decide (0 ≤ n ∧ n ≤ 9))) ∧ Drawn0 w w' :=
  PdiDigit.spec_diDigit.calls n _ w (by
    unfold PdiDigit.spec_diDigit.f PdiDigit.spec_l1In.f
    by_cases c : n ≥ 0
    · rw [if_pos c]; simp [show 0 ≤ n from c]
    · rw [if_neg c, decide_eq_false (by omega)]; rfl)
theorem isDigit_any (n : Int) (w : World) : Calls Tryd.prog 42 #[.int .i64 n] w fun e w' => e = .returned (.bool (decide (0 ≤ n ∧ n ≤ 9))) ∧ Drawn0 w w' :=
  PisDigit.impl_isDigit.calls n _ w (by
    unfold PisDigit.impl_isDigit.f PisDigit.impl_within.f
    by_cases c : 0 ≤ n
    · rw [if_pos c]; simp [c]
    · rw [if_neg c, decide_eq_false (by omega)]; rfl)
theorem l1In_any (a b c : Int) (w : World) : Calls Tryd.prog 44 #[.int .i64 a, .int .i64 b, .int .i64 c] w fun e w' => e = .returned (.bool (decide (b ≤ a ∧ a ≤ c))) ∧ Drawn0 w w' :=
  PdiDigit.spec_l1In.calls a b c _ w (by
    unfold PdiDigit.spec_l1In.f
    by_cases h : a ≥ b
    · rw [if_pos h]; congr 1; simp; omega
    · rw [if_neg h]; congr 1; simp; omega)
theorem within_any (a b c : Int) (w : World) : Calls Tryd.prog 49 #[.int .i64 a, .int .i64 b, .int .i64 c] w fun e w' => e = .returned (.bool (decide (b ≤ a ∧ a ≤ c))) ∧ Drawn0 w w' :=
  PisDigit.impl_within.calls a b c _ w (by
    unfold PisDigit.impl_within.f
    by_cases h : b ≤ a
    · rw [if_pos h]; congr 1; simp; omega
    · rw [if_neg h]; congr 1; simp; omega)

/-- two arguments: both sides tell the same of them -/
theorem CountWithout_over' (n d v : Int) (b : Bool) (w : World) (hs : ∀ W, Below w.heap.size w W → Calls Tryd.prog 21 #[.int .i64 n, .int .i64 d] W fun e w' => e = .returned (.tuple #[.int .i64 v, .bool b]) ∧ Below W.heap.size W w') (hi : ∀ W, Below w.heap.size w W → Calls Tryd.prog 22 #[.int .i64 n, .int .i64 d] W fun e w' => e = .returned (.tuple #[.int .i64 v, .bool b]) ∧ Below W.heap.size W w') :
    Calls Tryd.prog 7 #[.int .i64 n, .int .i64 d] w fun e w' => e = .returned (.bool true) ∧ Below w.heap.size w w' := by
  have HS := Aside0.mk hs
  have HI := Aside0.mk hi
  clear hs hi
  go_enter Tryd.func7, Tryd.ntmps7
  go_wp2_with (first | (go_at_call 21; refine (HS.out _ (Below.refl _ w)).mono ?_; rintro e w1 ⟨rfl, hb1⟩) | (go_at_call 22; refine (HI.out _ hb1).mono ?_; rintro e w2 ⟨rfl, hb2⟩))
  go_ret
  exact ⟨rfl, hb1.trans (hb2.mono hb1.size)⟩

theorem diWithout_both (n d : Nat) (hn : n ≤ 1000000000000) (hd : d ≤ 9) (w : World) : Calls Tryd.prog 41 #[.int .i64 n, .int .i64 d] w fun e w' => e = .returned (.int .i64 (Wo.W d n : Nat)) ∧ Below w.heap.size w w' := by
  by_cases z : d = 0
  · subst z; exact diWithout_zero n hn hd w
  · exact diWithout_more n d hn hd z w

theorem CountWithout_yes (n d : Nat) (hn : n ≤ 1000000000000) (hd : d ≤ 9) (w : World) (hT : TI w) :
    (Calls Tryd.prog 21 #[.int .i64 n, .int .i64 d] w fun e w' => e = .returned (.tuple #[.int .i64 (Wo.W d n : Nat), .bool true]) ∧ Below w.heap.size w w') ∧
    (Calls Tryd.prog 22 #[.int .i64 n, .int .i64 d] w fun e w' => e = .returned (.tuple #[.int .i64 (Wo.W d n : Nat), .bool true]) ∧ Below w.heap.size w w') := by
  have HG := Aside0.mk (diGood_any n)
  have HD := Aside0.mk (diDigit_any d)
  have HG' := Aside0.mk (isWritten_any n)
  have HD' := Aside0.mk (isDigit_any d)
  rw [decide_eq_true (by omega)] at HG HD HG' HD'
  have HC := Aside0.mk (fun W => diWithout_both n d hn hd W)
  have HC' := Aside0.mk (fun W (hb : Below w.heap.size w W) => without_any n d hn hd W (ti_stays hT hb))
  constructor
  · go_enter Tryd.func21, Tryd.ntmps21
    go_wp2_with (first | (go_at_call 33; refine (HG.out _).mono ?_; rintro e w1 ⟨rfl, ⟨nd, rfl⟩⟩) | (go_at_call 40; refine (HD.out _).mono ?_; rintro e w1 ⟨rfl, ⟨nd2, rfl⟩⟩) | (go_at_call 41; refine (HC.out _).mono ?_; rintro e w2 ⟨rfl, hb2⟩))
    go_ret2
    exact ⟨rfl, (pw_below_drewN (Below.refl _ w) _).trans hb2⟩
  · go_enter Tryd.func22, Tryd.ntmps22
    go_wp2_with (first | (go_at_call 35; refine (HG'.out _).mono ?_; rintro e w1 ⟨rfl, ⟨nd, rfl⟩⟩) | (go_at_call 42; refine (HD'.out _).mono ?_; rintro e w1 ⟨rfl, ⟨nd2, rfl⟩⟩) | (go_at_call 43; refine (HC'.out _ (pw_below_drewN (Below.refl _ w) _)).mono ?_; rintro e w2 ⟨rfl, hb2⟩))
    go_ret2
    exact ⟨rfl, (pw_below_drewN (Below.refl _ w) _).trans hb2⟩

theorem CountWithout_no (n d : Int) (h : ¬ ((0 ≤ n ∧ n ≤ 1000000000000) ∧ (0 ≤ d ∧ d ≤ 9))) (w : World) :
    (Calls Tryd.prog 21 #[.int .i64 n, .int .i64 d] w fun e w' => e = .returned (.tuple #[.int .i64 0, .bool false]) ∧ Below w.heap.size w w') ∧
    (Calls Tryd.prog 22 #[.int .i64 n, .int .i64 d] w fun e w' => e = .returned (.tuple #[.int .i64 0, .bool false]) ∧ Below w.heap.size w w') := by
  have HG := Aside0.mk (diGood_any n)
  have HD := Aside0.mk (diDigit_any d)
  have HG' := Aside0.mk (isWritten_any n)
  have HD' := Aside0.mk (isDigit_any d)
  by_cases h1 : 0 ≤ n ∧ n ≤ 1000000000000
  · rw [decide_eq_true h1] at HG HG'
    rw [decide_eq_false (fun c => h ⟨h1, c⟩)] at HD HD'
    constructor
    · go_enter Tryd.func21, Tryd.ntmps21
      go_wp2_with (first | (go_at_call 33; refine (HG.out _).mono ?_; rintro e w1 ⟨rfl, ⟨nd, rfl⟩⟩) | (go_at_call 40; refine (HD.out _).mono ?_; rintro e w1 ⟨rfl, ⟨nd2, rfl⟩⟩))
      go_ret2
      exact ⟨rfl, pw_below_drewN (Below.refl _ w) _⟩
    · go_enter Tryd.func22, Tryd.ntmps22
      go_wp2_with (first | (go_at_call 35; refine (HG'.out _).mono ?_; rintro e w1 ⟨rfl, ⟨nd, rfl⟩⟩) | (go_at_call 42; refine (HD'.out _).mono ?_; rintro e w1 ⟨rfl, ⟨nd2, rfl⟩⟩))
      go_ret2
      exact ⟨rfl, pw_below_drewN (Below.refl _ w) _⟩
  · rw [decide_eq_false h1] at HG HG'
    constructor
    · go_enter Tryd.func21, Tryd.ntmps21
      go_wp2_with (go_at_call 33; refine (HG.out _).mono ?_; rintro e w1 ⟨rfl, ⟨nd, rfl⟩⟩)
      go_ret2
      exact ⟨rfl, pw_below_drewN (Below.refl _ w) nd⟩
    · go_enter Tryd.func22, Tryd.ntmps22
      go_wp2_with (go_at_call 35; refine (HG'.out _).mono ?_; rintro e w1 ⟨rfl, ⟨nd, rfl⟩⟩)
      go_ret2
      exact ⟨rfl, pw_below_drewN (Below.refl _ w) nd⟩

theorem CountWithout_walk (n d : Int) (w : World) (hT : TI w) : Calls Tryd.prog 7 #[.int .i64 n, .int .i64 d] w fun e w' => e = .returned (.bool true) ∧ Below w.heap.size w w' := by
  by_cases h : (0 ≤ n ∧ n ≤ 1000000000000) ∧ (0 ≤ d ∧ d ≤ 9)
  · obtain ⟨m, rfl⟩ : ∃ m : Nat, n = m := ⟨n.toNat, by omega⟩
    obtain ⟨x, rfl⟩ : ∃ x : Nat, d = x := ⟨d.toNat, by omega⟩
    exact CountWithout_over' m x _ true w (fun W hb => (CountWithout_yes m x (by omega) (by omega) W (ti_stays hT hb)).1) (fun W hb => (CountWithout_yes m x (by omega) (by omega) W (ti_stays hT hb)).2)
  · exact CountWithout_over' n d 0 false w (fun W hb => (CountWithout_no n d h W).1) (fun W hb => (CountWithout_no n d h W).2)
/-- two arguments: both sides tell the same of them -/
theorem CountOfCounter_over' (n d v : Int) (b : Bool) (w : World) (hs : ∀ W, Below w.heap.size w W → Calls Tryd.prog 27 #[.int .i64 n, .int .i64 d] W fun e w' => e = .returned (.tuple #[.int .i64 v, .bool b]) ∧ Below W.heap.size W w') (hi : ∀ W, Below w.heap.size w W → Calls Tryd.prog 28 #[.int .i64 n, .int .i64 d] W fun e w' => e = .returned (.tuple #[.int .i64 v, .bool b]) ∧ Below W.heap.size W w') :
    Calls Tryd.prog 10 #[.int .i64 n, .int .i64 d] w fun e w' => e = .returned (.bool true) ∧ Below w.heap.size w w' := by
  have HS := Aside0.mk hs
  have HI := Aside0.mk hi
  clear hs hi
  go_enter Tryd.func10, Tryd.ntmps10
  go_wp2_with (first | (go_at_call 27; refine (HS.out _ (Below.refl _ w)).mono ?_; rintro e w1 ⟨rfl, hb1⟩) | (go_at_call 28; refine (HI.out _ hb1).mono ?_; rintro e w2 ⟨rfl, hb2⟩))
  go_ret
  exact ⟨rfl, hb1.trans (hb2.mono hb1.size)⟩
/-- two arguments: both sides tell the same of them -/
theorem CounterShows_over' (n d v : Int) (b : Bool) (w : World) (hs : ∀ W, Below w.heap.size w W → Calls Tryd.prog 25 #[.int .i64 n, .int .i64 d] W fun e w' => e = .returned (.tuple #[.int .i64 v, .bool b]) ∧ Below W.heap.size W w') (hi : ∀ W, Below w.heap.size w W → Calls Tryd.prog 26 #[.int .i64 n, .int .i64 d] W fun e w' => e = .returned (.tuple #[.int .i64 v, .bool b]) ∧ Below W.heap.size W w') :
    Calls Tryd.prog 9 #[.int .i64 n, .int .i64 d] w fun e w' => e = .returned (.bool true) ∧ Below w.heap.size w w' := by
  have HS := Aside0.mk hs
  have HI := Aside0.mk hi
  clear hs hi
  go_enter Tryd.func9, Tryd.ntmps9
  go_wp2_with (first | (go_at_call 25; refine (HS.out _ (Below.refl _ w)).mono ?_; rintro e w1 ⟨rfl, hb1⟩) | (go_at_call 26; refine (HI.out _ hb1).mono ?_; rintro e w2 ⟨rfl, hb2⟩))
  go_ret
  exact ⟨rfl, hb1.trans (hb2.mono hb1.size)⟩

/-! ### CountOfCounter -/
theorem W_step (d n : Nat) (hn : 1 ≤ n) : (Wo.W d n = Wo.W d (n - 1)) ↔ clean d n = false := by
  obtain ⟨m, rfl⟩ : ∃ m, n = m + 1 := ⟨n - 1, by omega⟩
  rw [Nat.add_sub_cancel, Wo.W]
  cases clean d (m + 1) <;> simp

theorem mem_dd (d n : Nat) (hd : d ≤ 9) : UInt8.ofNat (48 + d) ∈ decDigits n ↔ clean d n = false := by
  have inj : ∀ x, x < 10 → (UInt8.ofNat (48 + d) = UInt8.ofNat (48 + x) ↔ x = d) := fun x hx => by
    constructor
    · intro h
      have h1 := digit_byte (d := d) (by omega)
      rw [h, digit_byte hx] at h1; omega
    · rintro rfl; rfl
  induction n using Nat.strongRecOn with
  | _ n ih =>
    by_cases h : n < 10
    · rw [dd_small h, clean_small h, List.mem_singleton, inj n h]
      simp
    · have hi : (UInt8.ofNat (48 + d) ∈ decDigits (n / 10)) ↔ (clean d (n / 10) = false) := ih (n / 10) (by omega)
      have hj := inj (n % 10) (by omega)
      rw [dd_more h, clean_big h]
      constructor
      · intro hm
        rcases List.mem_append.1 hm with hm | hm
        · rw [hi.1 hm]; rfl
        · have e := hj.1 (List.mem_singleton.1 hm)
          rw [e]; simp
      · intro hm
        cases hc : clean d (n / 10) with
        | false => exact List.mem_append_left _ (hi.2 hc)
        | true =>
          rw [hc] at hm
          exact List.mem_append_right _ (List.mem_singleton.2 (hj.2 (by simpa using hm)))

theorem contains_dd (d n : Nat) (hd : d ≤ 9) : decide (0 ≤ Lib.indexByte (decDigits n) (UInt8.ofNat (48 + d))) = !clean d n := by
  have h := mem_dd d n hd
  have ge := Lib.indexByte_ge (decDigits n) (UInt8.ofNat (48 + d))
  by_cases c : 0 ≤ Lib.indexByte (decDigits n) (UInt8.ofNat (48 + d))
  · obtain ⟨o, ho⟩ : ∃ o : Nat, Lib.indexByte (decDigits n) (UInt8.ofNat (48 + d)) = o := ⟨_, (Int.toNat_of_nonneg c).symm⟩
    have hm := h.1 (List.mem_of_getElem? (Lib.indexByte_some ho).1)
    rw [decide_eq_true c, hm]; rfl
  · have e : Lib.indexByte (decDigits n) (UInt8.ofNat (48 + d)) = -1 := by omega
    have hn := Lib.indexByte_none e
    have hc : ¬ (clean d n = false) := fun x => by
      obtain ⟨k, hk⟩ := List.mem_iff_getElem?.1 (h.2 x)
      exact hn k hk
    rw [decide_eq_false c]
    cases hx : clean d n with
    | true => rfl
    | false => exact absurd hx hc

set_option maxRecDepth 100000 in
set_option maxHeartbeats 1000000 in
theorem CountOfCounter_yes (n d : Nat) (n1 : 1 ≤ n) (hn : n ≤ 1000000000000) (hd : d ≤ 9) (w : World) (hT : TI w) :
    (Calls Tryd.prog 27 #[.int .i64 n, .int .i64 d] w fun e w' => e = .returned (.tuple #[.int .i64 (if clean d n then (Wo.W d n : Nat) else 0), .bool (clean d n)]) ∧ Below w.heap.size w w') ∧
    (Calls Tryd.prog 28 #[.int .i64 n, .int .i64 d] w fun e w' => e = .returned (.tuple #[.int .i64 (if clean d n then (Wo.W d n : Nat) else 0), .bool (clean d n)]) ∧ Below w.heap.size w w') := by
  have HG := Aside0.mk (fun W => l1In_any n 1 1000000000000 W)
  have HD := Aside0.mk (diDigit_any d)
  have HG' := Aside0.mk (fun W => within_any n 1 1000000000000 W)
  have HD' := Aside0.mk (isDigit_any d)
  rw [decide_eq_true (by omega)] at HG HD HG' HD'
  have HC := Aside0.mk (fun (m : Nat) (hm : m ≤ 1000000000000) W => diWithout_both m d hm hd W)
  obtain ⟨p, hp⟩ : ∃ p, p = n - 1 := ⟨_, rfl⟩
  have pm : (n : Int) - 1 = p := by omega
  have HC' := Aside0.mk (fun W (hb : Below w.heap.size w W) => without_any n d hn hd W (ti_stays hT hb))
  have HI := Aside0.mk (fun (m : Nat) (hm : m ≤ 1000000000000) W (hb : Below w.heap.size w W) => (itoa_in m (by omega) w hT).out W hb)
  have ddd := dd_small (show d < 10 by omega)
  have HCO := Aside0.mk (fun W => Tryd.strings_Contains_one (str (decDigits n)) (UInt8.ofNat (48 + d)) W)
  rw [show (str (decDigits n)).data.toList = decDigits n from rfl, contains_dd d n hd] at HCO
  obtain ⟨c, hc⟩ : ∃ c, c = UInt8.ofNat (48 + d) := ⟨_, rfl⟩
  rw [← hc] at HCO ddd
  clear hc
  have st := W_step d n n1
  rw [← hp] at st
  have HW := Aside0.mk st
  clear st
  have wl := W_le d n
  have wl1 := W_le d p
  clear hp
  constructor
  · cases hc : clean d n with
    | true =>
      have q : ((Wo.W d n : Int) == (Wo.W d p : Int)) = false := by
        have := HW.out
        rw [hc] at this
        simp at this ⊢; omega
      clear hc
      go_enter Tryd.func27, Tryd.ntmps27
      go_wp2_with (first | (go_at_call 44; refine (HG.out _).mono ?_; rintro e w1 ⟨rfl, ⟨nd, rfl⟩⟩) | (go_at_call 40; refine (HD.out _).mono ?_; rintro e w1 ⟨rfl, ⟨nd2, rfl⟩⟩) | (go_at_call 41; refine (HC.out _ (by omega) _).mono ?_; rintro e w2 ⟨rfl, hb2⟩))
      go_ret2
      refine ⟨rfl, ?_⟩
      rename_i v1 hv1 v2 hv2
      have b1 := (pw_below_drewN (Below.refl _ w) _).trans hv1
      have b2 := b1.trans (hv2.mono b1.size)
      exact b2.trans (hb2.mono b2.size)
    | false =>
      have q : ((Wo.W d n : Int) == (Wo.W d p : Int)) = true := by
        have := HW.out
        rw [hc] at this
        simp at this ⊢; omega
      clear hc
      go_enter Tryd.func27, Tryd.ntmps27
      go_wp2_with (first | (go_at_call 44; refine (HG.out _).mono ?_; rintro e w1 ⟨rfl, ⟨nd, rfl⟩⟩) | (go_at_call 40; refine (HD.out _).mono ?_; rintro e w1 ⟨rfl, ⟨nd2, rfl⟩⟩) | (go_at_call 41; refine (HC.out _ (by omega) _).mono ?_; rintro e w2 ⟨rfl, hb2⟩))
      go_ret2
      refine ⟨rfl, ?_⟩
      rename_i v1 hv1
      have b1 := (pw_below_drewN (Below.refl _ w) _).trans hv1
      exact b1.trans (hb2.mono b1.size)
  · cases hc : clean d n with
    | true =>
      rw [hc] at HCO
      clear hc
      go_enter Tryd.func28, Tryd.ntmps28
      go_wp2_with (first | (go_at_call 49; refine (HG'.out _).mono ?_; rintro e w1 ⟨rfl, ⟨nd, rfl⟩⟩) | (go_at_call 42; refine (HD'.out _).mono ?_; rintro e w1 ⟨rfl, ⟨nd2, rfl⟩⟩) | (go_at_call 48; first | (refine (HI.out _ (by omega) _ HB3.out).mono ?_; rintro e w4 ⟨rfl, hb4⟩; have HB4 := Aside0.mk (HB3.out.trans (hb4.mono HB3.out.size)); clear hb4) | (refine (HI.out _ (by omega) _ (pw_below_drewN (Below.refl _ w) _)).mono ?_; rintro e w3 ⟨rfl, hb3⟩; have HB3 := Aside0.mk ((pw_below_drewN (Below.refl _ w) _).trans hb3); clear hb3)) | (go_at_call 52; refine (HCO.out _).mono ?_; rintro e w5 ⟨rfl, rfl⟩) | (go_at_call 43; refine (HC'.out _ HB4.out).mono ?_; rintro e w6 ⟨rfl, hb6⟩))
      go_ret2
      exact ⟨rfl, HB4.out.trans (hb6.mono HB4.out.size)⟩
    | false =>
      rw [hc] at HCO
      clear hc
      go_enter Tryd.func28, Tryd.ntmps28
      go_wp2_with (first | (go_at_call 49; refine (HG'.out _).mono ?_; rintro e w1 ⟨rfl, ⟨nd, rfl⟩⟩) | (go_at_call 42; refine (HD'.out _).mono ?_; rintro e w1 ⟨rfl, ⟨nd2, rfl⟩⟩) | (go_at_call 48; first | (refine (HI.out _ (by omega) _ HB3.out).mono ?_; rintro e w4 ⟨rfl, hb4⟩; have HB4 := Aside0.mk (HB3.out.trans (hb4.mono HB3.out.size)); clear hb4) | (refine (HI.out _ (by omega) _ (pw_below_drewN (Below.refl _ w) _)).mono ?_; rintro e w3 ⟨rfl, hb3⟩; have HB3 := Aside0.mk ((pw_below_drewN (Below.refl _ w) _).trans hb3); clear hb3)) | (go_at_call 52; refine (HCO.out _).mono ?_; rintro e w5 ⟨rfl, rfl⟩) | (go_at_call 43; refine (HC'.out _ HB4.out).mono ?_; rintro e w6 ⟨rfl, hb6⟩))
      go_ret2
      exact ⟨rfl, HB4.out⟩

theorem CountOfCounter_no (n d : Int) (h : ¬ ((1 ≤ n ∧ n ≤ 1000000000000) ∧ (0 ≤ d ∧ d ≤ 9))) (w : World) :
    (Calls Tryd.prog 27 #[.int .i64 n, .int .i64 d] w fun e w' => e = .returned (.tuple #[.int .i64 0, .bool false]) ∧ Below w.heap.size w w') ∧
    (Calls Tryd.prog 28 #[.int .i64 n, .int .i64 d] w fun e w' => e = .returned (.tuple #[.int .i64 0, .bool false]) ∧ Below w.heap.size w w') := by
  have HG := Aside0.mk (fun W => l1In_any n 1 1000000000000 W)
  have HD := Aside0.mk (diDigit_any d)
  have HG' := Aside0.mk (fun W => within_any n 1 1000000000000 W)
  have HD' := Aside0.mk (isDigit_any d)
  by_cases h1 : 1 ≤ n ∧ n ≤ 1000000000000
  · rw [decide_eq_true h1] at HG HG'
    rw [decide_eq_false (fun c => h ⟨h1, c⟩)] at HD HD'
    constructor
    · go_enter Tryd.func27, Tryd.ntmps27
      go_wp2_with (first | (go_at_call 44; refine (HG.out _).mono ?_; rintro e w1 ⟨rfl, ⟨nd, rfl⟩⟩) | (go_at_call 40; refine (HD.out _).mono ?_; rintro e w1 ⟨rfl, ⟨nd2, rfl⟩⟩))
      go_ret2
      exact ⟨rfl, pw_below_drewN (Below.refl _ w) _⟩
    · go_enter Tryd.func28, Tryd.ntmps28
      go_wp2_with (first | (go_at_call 49; refine (HG'.out _).mono ?_; rintro e w1 ⟨rfl, ⟨nd, rfl⟩⟩) | (go_at_call 42; refine (HD'.out _).mono ?_; rintro e w1 ⟨rfl, ⟨nd2, rfl⟩⟩))
      go_ret2
      exact ⟨rfl, pw_below_drewN (Below.refl _ w) _⟩
  · rw [decide_eq_false h1] at HG HG'
    constructor
    · go_enter Tryd.func27, Tryd.ntmps27
      go_wp2_with (go_at_call 44; refine (HG.out _).mono ?_; rintro e w1 ⟨rfl, ⟨nd, rfl⟩⟩)
      go_ret2
      exact ⟨rfl, pw_below_drewN (Below.refl _ w) _⟩
    · go_enter Tryd.func28, Tryd.ntmps28
      go_wp2_with (go_at_call 49; refine (HG'.out _).mono ?_; rintro e w1 ⟨rfl, ⟨nd, rfl⟩⟩)
      go_ret2
      exact ⟨rfl, pw_below_drewN (Below.refl _ w) _⟩

theorem CountOfCounter_walk (n d : Int) (w : World) (hT : TI w) : Calls Tryd.prog 10 #[.int .i64 n, .int .i64 d] w fun e w' => e = .returned (.bool true) ∧ Below w.heap.size w w' := by
  by_cases h : (1 ≤ n ∧ n ≤ 1000000000000) ∧ (0 ≤ d ∧ d ≤ 9)
  · obtain ⟨m, rfl⟩ : ∃ m : Nat, n = m := ⟨n.toNat, by omega⟩
    obtain ⟨x, rfl⟩ : ∃ x : Nat, d = x := ⟨d.toNat, by omega⟩
    exact CountOfCounter_over' m x _ _ w (fun W hb => (CountOfCounter_yes m x (by omega) (by omega) (by omega) W (ti_stays hT hb)).1) (fun W hb => (CountOfCounter_yes m x (by omega) (by omega) (by omega) W (ti_stays hT hb)).2)
  · exact CountOfCounter_over' n d 0 false w (fun W hb => (CountOfCounter_no n d h W).1) (fun W hb => (CountOfCounter_no n d h W).2)
end Go.Proofs.YtkienapjmgjafaaDoor.HSums
