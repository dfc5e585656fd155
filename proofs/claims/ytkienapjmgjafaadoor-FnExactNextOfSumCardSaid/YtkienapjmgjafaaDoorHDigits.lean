/-
  DigitSum, DigitProduct: both sides' functions, and the laws' own walks.
-/
import Derived.Test.YtkienapjmgjafaaDoorHItoa
namespace Go.Proofs.YtkienapjmgjafaaDoor.HSums
open Go.RowKit Go.Proofs.YtkienapjmgjafaaDoorW.PrintWords Go.Proofs.YtkienapjmgjafaaDoorW.PrintLast Go.Proofs.YtkienapjmgjafaaDoorW.PrintMore Go.Proofs.YtkienapjmgjafaaDoor.PNumberOfSum Go.Proofs.YtkienapjmgjafaaDoor.PdiSum Go.Proofs.YtkienapjmgjafaaDoor.PtkOf Go.Proofs.YtkienapjmgjafaaDoor.PtkWays Go.Proofs.YtkienapjmgjafaaDoor.Pl1In Go.Proofs.YtkienapjmgjafaaDoor.PsumOf
open Go.Lib (decDigits)
set_option linter.unusedVariables false
set_option linter.unusedSimpArgs false

theorem diGood_any (n : Int) (w : World) : Calls Tryd.prog 33 #[.int .i64 n] w fun e w' => e = .returned (.bool (decide (0 ≤ n ∧ n ≤ 1000000000000))) ∧ Drawn0 w w' :=
  PdiGood.spec_diGood.calls n _ w (by
    unfold PdiGood.spec_diGood.f PdiGood.spec_l1In.f
    by_cases c : n ≥ 0
    · rw [if_pos c]; simp [show 0 ≤ n from c]
    · rw [if_neg c, decide_eq_false (by omega)]; rfl)
theorem isWritten_any (n : Int) (w : World) : Calls Tryd.prog 35 #[.int .i64 n] w fun e w' => e = .returned (.bool (decide (0 ≤ n ∧ n ≤ 1000000000000))) ∧ Drawn0 w w' :=
  PisWritten.impl_isWritten.calls n _ w (by
    unfold PisWritten.impl_isWritten.f PisWritten.impl_within.f
    by_cases c : 0 ≤ n
    · rw [if_pos c]; simp [c]
    · rw [if_neg c, decide_eq_false (by omega)]; rfl)

set_option maxHeartbeats 800000 in
theorem digitProduct_any (n : Nat) (hn : n ≤ 1000000000000) (w : World) (hT : TI w) : Calls Tryd.prog 36 #[.int .i64 n] w fun e w' => e = .returned (.int .i64 (dp n)) ∧ Below w.heap.size w w' := by
  have HI := itoa_in n (by omega) w hT
  have HD := Aside0.mk (dd_d10 n)
  have HP := Aside0.mk (prodB_dd n)
  have hl13 : (decDigits n).length ≤ 13 := dd_len 13 (by omega) (by omega)
  obtain ⟨l, el⟩ : ∃ l, l = decDigits n := ⟨_, rfl⟩
  rw [← el] at HI HD HP hl13
  clear el
  have hsz := str_size l
  have kb := fun W => print_bytes (P := Tryd.prog) 9 38 5 Tryd.underlying9 Tryd.underlying38 Tryd.underlying5 (str l) W
  go_enter Tryd.func36, Tryd.ntmps36
  go_wp2_with (go_at_call 48; refine (HI.out _ (Below.refl _ _)).mono ?_; rintro e w1 ⟨rfl, hb1⟩; have HB1 := Aside0.mk hb1; clear hb1)
  have kc := fun j hj => Lib.bytesWorld_cell w1 5 (str l) j hj
  have HB2 := Aside0.mk (bytes_below HB1.out HB1.out.size 5 (str l))
  clear HB1 kb
  generalize Lib.bytesWorld w1 5 (str l) = w2 at kc HB2 ⊢
  go_loopg [3, 10] (l.length + 1) (fun gg v3 v10 wr => ∃ i : Nat, i ≤ l.length ∧ l.length - i < gg ∧ v3 = .int .i64 (prodB (l.take i)) ∧ v10 = .int .i64 i ∧ wr = w2)
  case atStart => exact ⟨0, by omega, by omega, rfl, rfl, rfl⟩
  case round =>
    obtain ⟨i, i1, i2, rfl, rfl, rfl⟩ := hrel
    by_cases hi : i < l.length
    · have hb := HD.out l[i] (List.getElem_mem hi)
      have hc : wr.cell? ⟨w1.heap.size, i, none⟩ = some (.int .u8 (l[i].toNat : Int)) := by
        rw [kc i (by rw [hsz]; exact hi)]
        simp [hi]
      have r0 := prodB_take_range HD.out hl13 i
      have r1 := prodB_take_range HD.out hl13 (i + 1)
      have es := prodB_take_succ hi
      obtain ⟨b, eb⟩ : ∃ b : Int, b = (l[i].toNat : Int) := ⟨_, rfl⟩
      rw [← eb] at hc es
      obtain ⟨p, ep⟩ : ∃ p, p = prodB (l.take i) := ⟨_, rfl⟩
      rw [← ep] at r0 es ⊢
      rw [es] at r1
      have hb1 : 48 ≤ b ∧ b ≤ 57 := by omega
      have ew : IntKind.i64.wrap (p * (b - 48)) = p * (b - 48) := IntWalk.i64_in _ (by omega)
      have ES := Aside0.mk es
      have EB := Aside0.mk eb
      clear eb ep es hb
      go_wp2
      go_roundg (l.length - i)
      case measure => omega
      case rel => exact ⟨i + 1, by omega, by omega, by rw [ES.out]; first | rfl | (rw [← EB.out, Int.emod_eq_of_lt (by omega) (by omega), wi (by omega) (by omega)]), rfl, rfl⟩
    · have ei : i = l.length := by omega
      have HV : Aside0 (prodB (l.take i) = dp n) := ⟨by rw [ei, List.take_length]; exact HP.out⟩
      rw [HV.out]
      go_wp2
      go_ret
      exact ⟨rfl, HB2.out⟩

set_option maxHeartbeats 800000 in
theorem diProduct_any (n : Nat) (hn : n ≤ 1000000000000) (w : World) : Calls Tryd.prog 34 #[.int .i64 n] w fun e w' => e = .returned (.int .i64 (dp n)) ∧ Below w.heap.size w w' := by
  have HI := Aside0.mk (fun (W : World) (_ : Below w.heap.size w W) => l1Num_any n (by omega) W)
  have HD := Aside0.mk (dd_d10 n)
  have HP := Aside0.mk (prodB_dd n)
  have hl13 : (decDigits n).length ≤ 13 := dd_len 13 (by omega) (by omega)
  obtain ⟨l, el⟩ : ∃ l, l = decDigits n := ⟨_, rfl⟩
  rw [← el] at HI HD HP hl13
  clear el
  have hsz := str_size l
  have kb := fun W => print_bytes (P := Tryd.prog) 9 38 5 Tryd.underlying9 Tryd.underlying38 Tryd.underlying5 (str l) W
  go_enter Tryd.func34, Tryd.ntmps34
  go_wp2_with (go_at_call 46; refine (HI.out _ (Below.refl _ _)).mono ?_; rintro e w1 ⟨rfl, hb1⟩; have HB1 := Aside0.mk hb1; clear hb1)
  have kc := fun j hj => Lib.bytesWorld_cell w1 5 (str l) j hj
  have HB2 := Aside0.mk (bytes_below HB1.out HB1.out.size 5 (str l))
  clear HB1 kb
  generalize Lib.bytesWorld w1 5 (str l) = w2 at kc HB2 ⊢
  go_loopg [3, 10] (l.length + 1) (fun gg v3 v10 wr => ∃ i : Nat, i ≤ l.length ∧ l.length - i < gg ∧ v3 = .int .i64 (prodB (l.take i)) ∧ v10 = .int .i64 i ∧ wr = w2)
  case atStart => exact ⟨0, by omega, by omega, rfl, rfl, rfl⟩
  case round =>
    obtain ⟨i, i1, i2, rfl, rfl, rfl⟩ := hrel
    by_cases hi : i < l.length
    · have hb := HD.out l[i] (List.getElem_mem hi)
      have hc : wr.cell? ⟨w1.heap.size, i, none⟩ = some (.int .u8 (l[i].toNat : Int)) := by
        rw [kc i (by rw [hsz]; exact hi)]
        simp [hi]
      have r0 := prodB_take_range HD.out hl13 i
      have r1 := prodB_take_range HD.out hl13 (i + 1)
      have es := prodB_take_succ hi
      obtain ⟨b, eb⟩ : ∃ b : Int, b = (l[i].toNat : Int) := ⟨_, rfl⟩
      rw [← eb] at hc es
      obtain ⟨p, ep⟩ : ∃ p, p = prodB (l.take i) := ⟨_, rfl⟩
      rw [← ep] at r0 es ⊢
      rw [es] at r1
      have hb1 : 48 ≤ b ∧ b ≤ 57 := by omega
      have ew : IntKind.i64.wrap (p * (b - 48)) = p * (b - 48) := IntWalk.i64_in _ (by omega)
      have ES := Aside0.mk es
      have EB := Aside0.mk eb
      clear eb ep es hb
      go_wp2
      go_roundg (l.length - i)
      case measure => omega
      case rel => exact ⟨i + 1, by omega, by omega, by rw [ES.out]; first | rfl | (rw [← EB.out, Int.emod_eq_of_lt (by omega) (by omega), wi (by omega) (by omega)]), rfl, rfl⟩
    · have ei : i = l.length := by omega
      have HV : Aside0 (prodB (l.take i) = dp n) := ⟨by rw [ei, List.take_length]; exact HP.out⟩
      rw [HV.out]
      go_wp2
      go_ret
      exact ⟨rfl, HB2.out⟩

theorem DigitSum_over (n v : Int) (b : Bool) (hs : ∀ W, Calls Tryd.prog 15 #[.int .i64 n] W fun e w' => e = .returned (.tuple #[.int .i64 v, .bool b]) ∧ Below W.heap.size W w') (w : World) (hi : ∀ W, Below w.heap.size w W → Calls Tryd.prog 16 #[.int .i64 n] W fun e w' => e = .returned (.tuple #[.int .i64 v, .bool b]) ∧ Below W.heap.size W w') :
    Calls Tryd.prog 4 #[.int .i64 n] w fun e w' => e = .returned (.bool true) ∧ Below w.heap.size w w' := by
  have HS := Aside0.mk hs
  have HI := Aside0.mk hi
  clear hs hi
  go_enter Tryd.func4, Tryd.ntmps4
  go_wp2_with (first | (go_at_call 15; refine (HS.out _).mono ?_; rintro e w1 ⟨rfl, hb1⟩) | (go_at_call 16; refine (HI.out _ hb1).mono ?_; rintro e w2 ⟨rfl, hb2⟩))
  go_ret
  exact ⟨rfl, hb1.trans (hb2.mono hb1.size)⟩

theorem DigitSum_spec (n : Int) (w : World) : Calls Tryd.prog 15 #[.int .i64 n] w fun e w' => e = .returned (.tuple #[.int .i64 (if 0 ≤ n ∧ n ≤ 1000000000000 then (ds n.toNat : Int) else 0), .bool (decide (0 ≤ n ∧ n ≤ 1000000000000))]) ∧ Below w.heap.size w w' := by
  have HG := Aside0.mk (fun W => diGood_any n W)
  by_cases h : 0 ≤ n ∧ n ≤ 1000000000000
  · obtain ⟨m, rfl⟩ : ∃ m : Nat, n = m := ⟨n.toNat, by omega⟩
    rw [if_pos h]
    rw [decide_eq_true h] at HG ⊢
    rw [show ((m : Int)).toNat = m from rfl]
    have HC := Aside0.mk (fun W => diSum_any m (by omega) W)
    go_enter Tryd.func15, Tryd.ntmps15
    go_wp2_with (first | (go_at_call 33; refine (HG.out _).mono ?_; rintro e w1 ⟨rfl, ⟨nd, rfl⟩⟩) | (go_at_call 37; refine (HC.out _).mono ?_; rintro e w2 ⟨rfl, hb2⟩))
    go_ret2
    exact ⟨rfl, (pw_below_drewN (Below.refl _ w) nd).trans hb2⟩
  · rw [if_neg h]
    rw [decide_eq_false h] at HG ⊢
    go_enter Tryd.func15, Tryd.ntmps15
    go_wp2_with (go_at_call 33; refine (HG.out _).mono ?_; rintro e w1 ⟨rfl, ⟨nd, rfl⟩⟩)
    go_ret2
    exact ⟨rfl, pw_below_drewN (Below.refl _ w) nd⟩

theorem DigitSum_impl (n : Int) (w : World) (hT : TI w) : Calls Tryd.prog 16 #[.int .i64 n] w fun e w' => e = .returned (.tuple #[.int .i64 (if 0 ≤ n ∧ n ≤ 1000000000000 then (ds n.toNat : Int) else 0), .bool (decide (0 ≤ n ∧ n ≤ 1000000000000))]) ∧ Below w.heap.size w w' := by
  have HG := Aside0.mk (fun W => isWritten_any n W)
  by_cases h : 0 ≤ n ∧ n ≤ 1000000000000
  · obtain ⟨m, rfl⟩ : ∃ m : Nat, n = m := ⟨n.toNat, by omega⟩
    rw [if_pos h]
    rw [decide_eq_true h] at HG ⊢
    rw [show ((m : Int)).toNat = m from rfl]
    have HC := Aside0.mk (fun W (hb : Below w.heap.size w W) => digitSum_any m (by omega) W (ti_stays hT hb))
    go_enter Tryd.func16, Tryd.ntmps16
    go_wp2_with (first | (go_at_call 35; refine (HG.out _).mono ?_; rintro e w1 ⟨rfl, ⟨nd, rfl⟩⟩) | (go_at_call 38; refine (HC.out _ (pw_below_drewN (Below.refl _ w) _)).mono ?_; rintro e w2 ⟨rfl, hb2⟩))
    go_ret2
    exact ⟨rfl, (pw_below_drewN (Below.refl _ w) nd).trans hb2⟩
  · rw [if_neg h]
    rw [decide_eq_false h] at HG ⊢
    go_enter Tryd.func16, Tryd.ntmps16
    go_wp2_with (go_at_call 35; refine (HG.out _).mono ?_; rintro e w1 ⟨rfl, ⟨nd, rfl⟩⟩)
    go_ret2
    exact ⟨rfl, pw_below_drewN (Below.refl _ w) nd⟩

theorem DigitSum_walk (n : Int) (w : World) (hT : TI w) : Calls Tryd.prog 4 #[.int .i64 n] w fun e w' => e = .returned (.bool true) ∧ Below w.heap.size w w' :=
  DigitSum_over n _ _ (fun W => DigitSum_spec n W) w (fun W hb => DigitSum_impl n W (ti_stays hT hb))

theorem DigitProduct_over (n v : Int) (b : Bool) (hs : ∀ W, Calls Tryd.prog 13 #[.int .i64 n] W fun e w' => e = .returned (.tuple #[.int .i64 v, .bool b]) ∧ Below W.heap.size W w') (w : World) (hi : ∀ W, Below w.heap.size w W → Calls Tryd.prog 14 #[.int .i64 n] W fun e w' => e = .returned (.tuple #[.int .i64 v, .bool b]) ∧ Below W.heap.size W w') :
    Calls Tryd.prog 3 #[.int .i64 n] w fun e w' => e = .returned (.bool true) ∧ Below w.heap.size w w' := by
  have HS := Aside0.mk hs
  have HI := Aside0.mk hi
  clear hs hi
  go_enter Tryd.func3, Tryd.ntmps3
  go_wp2_with (first | (go_at_call 13; refine (HS.out _).mono ?_; rintro e w1 ⟨rfl, hb1⟩) | (go_at_call 14; refine (HI.out _ hb1).mono ?_; rintro e w2 ⟨rfl, hb2⟩))
  go_ret
  exact ⟨rfl, hb1.trans (hb2.mono hb1.size)⟩

theorem DigitProduct_spec (n : Int) (w : World) : Calls Tryd.prog 13 #[.int .i64 n] w fun e w' => e = .returned (.tuple #[.int .i64 (if 0 ≤ n ∧ n ≤ 1000000000000 then (dp n.toNat : Int) else 0), .bool (decide (0 ≤ n ∧ n ≤ 1000000000000))]) ∧ Below w.heap.size w w' := by
  have HG := Aside0.mk (fun W => diGood_any n W)
  by_cases h : 0 ≤ n ∧ n ≤ 1000000000000
  · obtain ⟨m, rfl⟩ : ∃ m : Nat, n = m := ⟨n.toNat, by omega⟩
    rw [if_pos h]
    rw [decide_eq_true h] at HG ⊢
    rw [show ((m : Int)).toNat = m from rfl]
    have HC := Aside0.mk (fun W => diProduct_any m (by omega) W)
    go_enter Tryd.func13, Tryd.ntmps13
    go_wp2_with (first | (go_at_call 33; refine (HG.out _).mono ?_; rintro e w1 ⟨rfl, ⟨nd, rfl⟩⟩) | (go_at_call 34; refine (HC.out _).mono ?_; rintro e w2 ⟨rfl, hb2⟩))
    go_ret2
    exact ⟨rfl, (pw_below_drewN (Below.refl _ w) nd).trans hb2⟩
  · rw [if_neg h]
    rw [decide_eq_false h] at HG ⊢
    go_enter Tryd.func13, Tryd.ntmps13
    go_wp2_with (go_at_call 33; refine (HG.out _).mono ?_; rintro e w1 ⟨rfl, ⟨nd, rfl⟩⟩)
    go_ret2
    exact ⟨rfl, pw_below_drewN (Below.refl _ w) nd⟩

theorem DigitProduct_impl (n : Int) (w : World) (hT : TI w) : Calls Tryd.prog 14 #[.int .i64 n] w fun e w' => e = .returned (.tuple #[.int .i64 (if 0 ≤ n ∧ n ≤ 1000000000000 then (dp n.toNat : Int) else 0), .bool (decide (0 ≤ n ∧ n ≤ 1000000000000))]) ∧ Below w.heap.size w w' := by
  have HG := Aside0.mk (fun W => isWritten_any n W)
  by_cases h : 0 ≤ n ∧ n ≤ 1000000000000
  · obtain ⟨m, rfl⟩ : ∃ m : Nat, n = m := ⟨n.toNat, by omega⟩
    rw [if_pos h]
    rw [decide_eq_true h] at HG ⊢
    rw [show ((m : Int)).toNat = m from rfl]
    have HC := Aside0.mk (fun W (hb : Below w.heap.size w W) => digitProduct_any m (by omega) W (ti_stays hT hb))
    go_enter Tryd.func14, Tryd.ntmps14
    go_wp2_with (first | (go_at_call 35; refine (HG.out _).mono ?_; rintro e w1 ⟨rfl, ⟨nd, rfl⟩⟩) | (go_at_call 36; refine (HC.out _ (pw_below_drewN (Below.refl _ w) _)).mono ?_; rintro e w2 ⟨rfl, hb2⟩))
    go_ret2
    exact ⟨rfl, (pw_below_drewN (Below.refl _ w) nd).trans hb2⟩
  · rw [if_neg h]
    rw [decide_eq_false h] at HG ⊢
    go_enter Tryd.func14, Tryd.ntmps14
    go_wp2_with (go_at_call 35; refine (HG.out _).mono ?_; rintro e w1 ⟨rfl, ⟨nd, rfl⟩⟩)
    go_ret2
    exact ⟨rfl, pw_below_drewN (Below.refl _ w) nd⟩

theorem DigitProduct_walk (n : Int) (w : World) (hT : TI w) : Calls Tryd.prog 3 #[.int .i64 n] w fun e w' => e = .returned (.bool true) ∧ Below w.heap.size w w' :=
  DigitProduct_over n _ _ (fun W => DigitProduct_spec n W) w (fun W hb => DigitProduct_impl n W (ti_stays hT hb))

end Go.Proofs.YtkienapjmgjafaaDoor.HSums
