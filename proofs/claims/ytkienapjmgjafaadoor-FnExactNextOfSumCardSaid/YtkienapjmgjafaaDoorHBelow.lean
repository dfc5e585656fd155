/-
  CountOfSum: how many numbers below one have a digit sum, reckoned over the padded numeral.
-/
import Derived.Test.YtkienapjmgjafaaDoorHDigits
namespace Go.Proofs.YtkienapjmgjafaaDoor.HSums
open Go.RowKit Go.Proofs.YtkienapjmgjafaaDoorW.PrintWords Go.Proofs.YtkienapjmgjafaaDoorW.PrintLast Go.Proofs.YtkienapjmgjafaaDoorW.PrintMore Go.Proofs.YtkienapjmgjafaaDoor.PNumberOfSum Go.Proofs.YtkienapjmgjafaaDoor.PdiSum Go.Proofs.YtkienapjmgjafaaDoor.PtkOf Go.Proofs.YtkienapjmgjafaaDoor.PtkWays Go.Proofs.YtkienapjmgjafaaDoor.Pl1In Go.Proofs.YtkienapjmgjafaaDoor.PsumOf
open Go.Lib (decDigits)
set_option linter.unusedVariables false
set_option linter.unusedSimpArgs false

/-- the numeral with thirteen digits -/
def pad (n : Nat) : List UInt8 := List.replicate (13 - (decDigits n).length) 48 ++ decDigits n

theorem pad_length {n : Nat} (h : (decDigits n).length ≤ 13) : (pad n).length = 13 := by
  unfold pad; rw [List.length_append, List.length_replicate]; omega

theorem pad_d10 (n : Nat) : D10 (pad n) := by
  intro b hb
  rcases List.mem_append.1 hb with hb | hb
  · rw [(List.mem_replicate.1 hb).2]; decide
  · exact dd_d10 n b hb

theorem pad_get {n : Nat} (h : (decDigits n).length ≤ 13) (i : Nat) (hi : i < 13) : (pad n)[i]? = some (UInt8.ofNat (48 + n / 10 ^ (12 - i) % 10)) := by
  unfold pad
  by_cases c : i < 13 - (decDigits n).length
  · rw [List.getElem?_append_left (by rw [List.length_replicate]; exact c), List.getElem?_replicate, if_pos c]
    have : n / 10 ^ (12 - i) = 0 := Nat.div_eq_of_lt (Nat.lt_of_lt_of_le (dd_lt n) (Nat.pow_le_pow_right (by omega) (by omega)))
    rw [this]; rfl
  · rw [List.getElem?_append_right (by rw [List.length_replicate]; omega), List.length_replicate, dd_get n _ (by omega), show (decDigits n).length - 1 - (i - (13 - (decDigits n).length)) = 12 - i by omega]

theorem sumB_zeros (c : Nat) : sumB (List.replicate c 48) = 0 := by
  induction c with
  | zero => rfl
  | succ c ih => rw [List.replicate_succ, sumB, ih]; rfl

theorem pad_take {n : Nat} (h : (decDigits n).length ≤ 13) (i : Nat) (hi : i ≤ 13) : sumB ((pad n).take i) = ds (n / 10 ^ (13 - i)) := by
  unfold pad
  rw [List.take_append, sumB_append, List.length_replicate, List.take_replicate, sumB_zeros, Int.zero_add, sumB_take n _ (by omega)]
  by_cases c : i ≤ 13 - (decDigits n).length
  · have e1 : n / 10 ^ (13 - i) = 0 := Nat.div_eq_of_lt (Nat.lt_of_lt_of_le (dd_lt n) (Nat.pow_le_pow_right (by omega) (by omega)))
    have e2 : n / 10 ^ ((decDigits n).length - (i - (13 - (decDigits n).length))) = 0 := by
      rw [show (decDigits n).length - (i - (13 - (decDigits n).length)) = (decDigits n).length by omega]
      exact Nat.div_eq_of_lt (dd_lt n)
    rw [e1, e2]
  · rw [show (decDigits n).length - (i - (13 - (decDigits n).length)) = 13 - i by omega]

theorem repeat_zeros (c : Nat) : Lib.repeatL [48] c = List.replicate c 48 := by
  induction c with
  | zero => rfl
  | succ c ih => rw [Lib.repeatL, ih]; rfl

theorem repeat_any (c : Nat) (hc : c ≤ 13) (w : World) : Calls Tryd.prog 75 #[.string ⟨#[48]⟩, .int .i64 c] w fun e w' => e = .returned (.string (str (List.replicate c 48))) ∧ Below w.heap.size w w' := by
  refine (Tryd.strings_Repeat ⟨#[48]⟩ c w (by omega) (by have : (ByteArray.mk #[48]).size = 1 := rfl; rw [this]; omega)).mono ?_
  rintro e w' ⟨rfl, hb⟩
  refine ⟨?_, hb⟩
  rw [show (ByteArray.mk #[48]).data.toList = [48] from rfl, repeat_zeros]

set_option maxHeartbeats 800000 in
set_option maxRecDepth 100000 in
theorem padded_any (n : Nat) (hn : n ≤ 1000000000001) (w : World) (hT : TI w) : Calls Tryd.prog 68 #[.int .i64 n, .int .i64 13] w fun e w' => e = .returned (.string (str (pad n))) ∧ Below w.heap.size w w' := by
  have HI := itoa_in n (by omega) w hT
  have l13 : (decDigits n).length ≤ 13 := dd_len 13 (by omega) (by omega)
  have l1 := dd_pos n
  obtain ⟨c, hc⟩ : ∃ c, c = 13 - (decDigits n).length := ⟨_, rfl⟩
  have HP : Aside0 (pad n = List.replicate c 48 ++ decDigits n) := ⟨by rw [hc]; rfl⟩
  have HR := Aside0.mk (fun W => repeat_any c (by omega) W)
  obtain ⟨l, el⟩ : ∃ l, l = decDigits n := ⟨_, rfl⟩
  rw [← el] at HI HP l13 l1 hc
  have hcl : c + l.length = 13 := by omega
  clear el hc
  rw [HP.out, ← str_append]
  have hsz := str_size l
  have hs2 := str_size (List.replicate c 48)
  rw [List.length_replicate] at hs2
  have em : max (0 : Int) (13 - l.length) = c := by omega
  have ea := str_append (List.replicate c 48) l
  go_enter Tryd.func68, Tryd.ntmps68
  go_wp2_with (first | (go_at_call 48; refine (HI.out _ (Below.refl _ w)).mono ?_; rintro e w1 ⟨rfl, hb1⟩) | (go_at_call 75; refine (HR.out _).mono ?_; rintro e w2 ⟨rfl, hb2⟩))
  go_ret
  exact ⟨congrArg (fun z => Ending.returned (Value.string z)) ea.symm, hb1.trans (hb2.mono hb1.size)⟩

theorem ways_any (n : Nat) (h : n ≤ 13) (w : World) : Calls Tryd.prog 69 #[.int .i64 n] w (OutW n w) := by
  obtain ⟨c, e⟩ := ways_some
  refine (impl_ways.calls c n (W n) w (e c n (Nat.le_refl _) h)).mono ?_
  rintro e w' ⟨v, rfl, hR, hb⟩
  obtain ⟨A, cc, rfl⟩ := Kd.R_slice hR
  exact ⟨A, cc, rfl, ⟨(Kd.R_reads' hR).2⟩, ⟨hb⟩⟩

theorem at_any (n : Nat) (hn : n ≤ 13) (s : Int) {A : Option Addr} {c : Nat} (w : World) (h : (W n).length ≤ c ∧ Kd.C (Kd.int .i64) w A (W n).length (W n)) : Calls Tryd.prog 70 #[.slice A (W n).length c, .int .i64 s] w fun e w' => e = .returned (.int .i64 (C n s)) ∧ Drawn0 w w' :=
  impl_at.calls A c (W n) s _ w h.2 h.1 (at_eq n hn s)

set_option maxRecDepth 100000 in
set_option maxHeartbeats 4000000 in
theorem below_any (n : Nat) (n2 : n ≤ 1000000000001) (s : Int) (s0 : 0 ≤ s) (s1 : s ≤ 9223372036854775807) (w : World) (hT : TI w) :
    Calls Tryd.prog 54 #[.int .i64 n, .int .i64 s] w fun e w' => e = .returned (.int .i64 (N s n : Nat)) ∧ Below w.heap.size w w' := by
  have l13 : (decDigits n).length ≤ 13 := dd_len 13 (by omega) (by omega)
  have HP := Aside0.mk (fun W (hb : Below w.heap.size w W) => padded_any n n2 W (ti_stays hT hb))
  have HD := Aside0.mk (pad_d10 n)
  have HG := Aside0.mk (pad_get l13)
  have HTK := Aside0.mk (pad_take l13)
  have hl := pad_length l13
  obtain ⟨l, el⟩ : ∃ l, l = pad n := ⟨_, rfl⟩
  rw [← el] at HP HD HG HTK hl
  clear el
  have hsz := str_size l
  rw [hl] at hsz
  have hn13 : Aside0 (n < 10 ^ 13) := ⟨by omega⟩
  obtain ⟨M, hM⟩ : ∃ M : Nat, M = 12 := ⟨_, rfl⟩
  go_enter Tryd.func54, Tryd.ntmps54
  go_wp2_with (go_at_call 68; refine (HP.out _ (Below.refl _ w)).mono ?_; rintro e w1 ⟨rfl, hb1⟩)
  have HB1 := Aside0.mk hb1
  clear hb1
  go_loopg [6, 14] 15 (fun gg v6 v14 wr => ∃ i : Nat, i ≤ 13 ∧ 13 - i < gg ∧ v6 = .int .i64 (N s (n / 10 ^ (13 - i) * 10 ^ (13 - i)) : Nat) ∧ v14 = .int .i64 i ∧ Aside0 (Below w.heap.size w wr))
  case atStart => exact ⟨0, by omega, by omega, by rw [Nat.sub_zero, Nat.div_eq_of_lt hn13.out, Nat.zero_mul]; rfl, rfl, HB1⟩
  case round =>
    obtain ⟨i, i1, i2, rfl, rfl, HB⟩ := hrel
    by_cases hi : i < 13
    · obtain ⟨p, D, r, ha⟩ : ∃ p D r, At n 13 i p D r := ⟨_, _, _, at_of n 13 i hi⟩
      have hD : D < 10 := by rw [ha.d1]; omega
      have hr := ha.r1
      have hbyte : ((str l)[i]'(by rw [hsz]; exact hi)).toNat = 48 + D := by
        have e := HG.out i hi
        rw [List.getElem?_eq_getElem (by omega), show 12 - i = r by omega, ← ha.d1] at e
        rw [show ((str l)[i]'(by rw [hsz]; exact hi)) = l[i]'(by omega) from rfl, Option.some.inj e, digit_byte hD]
      have HW := Aside0.mk (fun W => ways_any r (by omega) W)
      have e12 : (12 : Int) - i = r := by omega
      go_wp2_with (go_at_call 69; refine (HW.out _).mono ?_; rintro e w2 ⟨A, cc, rfl, hC, hB2⟩)
      have HB2 := Aside0.mk (HB.out.trans (hB2.out.mono HB.out.size))
      clear HB hB2
      go_loopg [6, 9] (D + 1) (fun gg v6 v9 wr => ∃ d : Nat, d ≤ D ∧ D - d < gg ∧ v9 = .int .u8 (48 + d) ∧ v6 = .int .i64 (N s ((10 * p + d) * 10 ^ r) : Nat) ∧ Aside0 ((W r).length ≤ cc ∧ (Kd.int .i64).C wr A (W r).length (W r)) ∧ Aside0 (Below w.heap.size w wr))
      case atStart => exact ⟨0, by omega, by omega, rfl, by rw [← ha.p1, show 13 - i = r + 1 by omega, show (10 * p + 0) * 10 ^ r = p * 10 ^ (r + 1) by rw [Nat.add_zero, Nat.pow_succ]; grind], hC, HB2⟩
      case round =>
        obtain ⟨d, d1, d2, rfl, rfl, HC, HB⟩ := hrel
        by_cases hd : d < D
        · have HSU := Aside0.mk (fun W => sumOf_any (l.take i) (fun b hb => HD.out b (List.mem_of_mem_take hb)) (by rw [List.length_take]; omega) W)
          have HAT := Aside0.mk (fun x W h => at_any r (by omega) x (A := A) (c := cc) W h)
          have sr := sumB_range (l := l.take i) (fun b hb => HD.out b (List.mem_of_mem_take hb))
          have lt : (l.take i).length = i := by rw [List.length_take]; omega
          rw [lt] at sr
          have et : (str l).extract 0 i = str (l.take i) := by
            apply ByteArray.ext
            simp [ByteArray.data_extract]
          obtain ⟨q, hq⟩ : ∃ q, q = sumB (l.take i) := ⟨_, rfl⟩
          rw [← hq] at sr HSU
          have eq : q = ds p := by rw [hq, ha.p1, HTK.out i (by omega)]
          clear hq
          have e3 : IntKind.i64.wrap (s - q) = s - q := IntWalk.i64_in _ (by omega)
          have e4 : IntKind.i64.wrap (s - q - d) = s - q - d := IntWalk.i64_in _ (by omega)
          have ec : ((48 + (d : Int)) - 48) % 256 = d := by omega
          have ec2 : 48 + (d : Int) - 48 = d := by omega
          have NB : Aside0 (wrap64 ((N s ((10 * p + d) * 10 ^ r) : Int) + C r (s - q - d)) = (N s ((10 * p + (d + 1)) * 10 ^ r) : Nat)) := ⟨by
            have nb := N_block s r (10 * p + d)
            rw [ds_step p d (by omega), show s - ((ds p + d : Nat) : Int) = s - q - d by rw [eq]; omega] at nb
            have e : n / 10 ^ r = 10 * p + D := by rw [← ha.n1, show 13 - (i + 1) = r by omega]
            have le : (10 * p + d + 1) * 10 ^ r ≤ n := Nat.le_trans (Nat.mul_le_mul_right _ (show 10 * p + d + 1 ≤ 10 * p + D by omega)) (by rw [← e]; exact Nat.div_mul_le_self n (10 ^ r))
            have b1 := N_le (s := s) n
            have b2 := N_mono (s := s) le
            rw [show 10 * p + (d + 1) = 10 * p + d + 1 by omega, nb]
            rw [nb] at b2
            rw [wi (by omega) (by omega), Int.natCast_add]⟩
          clear eq
          go_wp2_with (first | (go_at_call 58; refine (HSU.out _).mono ?_; rintro e w3 ⟨rfl, ⟨nd, rfl⟩⟩) | (go_at_call 70; refine (HAT.out _ _ ⟨HC.out.1, Kd.C_drewN HC.out.2 _⟩).mono ?_; rintro e w4 ⟨rfl, ⟨nd2, rfl⟩⟩))
          go_roundg (D - d)
          case measure => omega
          case rel => exact ⟨d + 1, by omega, by omega, by go_num, by rw [NB.out], ⟨HC.out.1, Kd.C_drewN HC.out.2 _⟩, ⟨pw_below_drewN HB.out _⟩⟩
        · obtain rfl : d = D := by omega
          go_wp2
          go_roundg (13 - i)
          case measure => omega
          case rel => exact ⟨i + 1, by omega, by omega, by rw [ha.n1, show 13 - (i + 1) = r by omega], rfl, HB⟩
    · obtain rfl : i = 13 := by omega
      go_wp2
      go_ret
      exact ⟨congrArg (fun z : Nat => Ending.returned (Value.int IntKind.i64 (z : Int))) (by rw [Nat.sub_self, Nat.pow_zero, Nat.mul_one, Nat.div_one]), HB.out⟩
end Go.Proofs.YtkienapjmgjafaaDoor.HSums
