/-
  CountWithout: the walks of both sides' functions.
-/
import Derived.Test.YtkienapjmgjafaaDoorHWithout
namespace Go.Proofs.YtkienapjmgjafaaDoor.HSums
open Go.RowKit Go.Proofs.YtkienapjmgjafaaDoorW.PrintWords Go.Proofs.YtkienapjmgjafaaDoorW.PrintLast Go.Proofs.YtkienapjmgjafaaDoorW.PrintMore Go.Proofs.YtkienapjmgjafaaDoor.PNumberOfSum Go.Proofs.YtkienapjmgjafaaDoor.PdiSum Go.Proofs.YtkienapjmgjafaaDoor.PtkOf Go.Proofs.YtkienapjmgjafaaDoor.PtkWays Go.Proofs.YtkienapjmgjafaaDoor.Pl1In Go.Proofs.YtkienapjmgjafaaDoor.PsumOf
open Go.Lib (decDigits)
open Wo
set_option linter.unusedVariables false
set_option linter.unusedSimpArgs false

theorem bit_any (b : Bool) (w : World) : Calls Tryd.prog 59 #[.bool b] w fun e w' => e = .returned (.int .i64 (if b = true then 1 else 0)) ∧ Drawn0 w w' :=
  Pbit.impl_bit.calls b _ w (by unfold Pbit.impl_bit.f; cases b <;> rfl)

/-- the digit at a place, as a byte -/
theorem byte_at {n i : Nat} {l : List UInt8} (hg : ∀ i, i < l.length → l[i]? = some (UInt8.ofNat (48 + n / 10 ^ (l.length - 1 - i) % 10))) (hi : i < l.length) : (l[i].toNat : Int) = 48 + ((n / 10 ^ (l.length - 1 - i) % 10 : Nat) : Int) := by
  have e := hg i hi
  rw [List.getElem?_eq_getElem hi] at e
  rw [Option.some.inj e, digit_byte (by omega)]; push_cast; rfl

theorem at_str {l : List UInt8} {i : Nat} (h : i < l.length) : (str l).data.toList[i]? = some l[i] := by simp [h]

/-- the power at a place -/
def Pw (L i : Nat) : Nat := if i < L then 9 ^ (L - 1 - i) else 0
theorem pw_next (L i : Nat) (h : i < L) : Pw L (i + 1) = 9 ^ (L - 1 - i) / 9 := by
  unfold Pw
  by_cases c : i + 1 < L
  · rw [if_pos c, show L - 1 - i = (L - 1 - (i + 1)) + 1 by omega, Nat.pow_succ, Nat.mul_div_cancel _ (by omega)]
  · rw [if_neg c, show L - 1 - i = 0 by omega]

set_option maxHeartbeats 2000000 in
theorem without_any (n d : Nat) (hn : n ≤ 1000000000000) (hd : d ≤ 9) (w : World) (hT : TI w) : Calls Tryd.prog 43 #[.int .i64 n, .int .i64 d] w fun e w' => e = .returned (.int .i64 (Wo.W d n : Nat)) ∧ Below w.heap.size w w' := by
  have HI := itoa_in n (by omega) w hT
  have HG := Aside0.mk (dd_get n)
  have hl13 : (decDigits n).length ≤ 13 := dd_len 13 (by omega) (by omega)
  have hl1 := dd_pos n
  obtain ⟨l, el⟩ : ∃ l, l = decDigits n := ⟨_, rfl⟩
  rw [← el] at HI HG hl13 hl1
  have EL : Aside0 (l.length = (decDigits n).length) := ⟨by rw [el]⟩
  clear el
  have hsz := str_size l
  have HBIT := Aside0.mk bit_any
  obtain ⟨res, hres⟩ : ∃ res : Int, res = (Wo.W d n : Nat) := ⟨_, rfl⟩
  rw [← hres]
  have HRES := Aside0.mk hres
  clear hres
  have e1 : IntKind.i64.wrap ((l.length : Int) - 1) = (l.length : Int) - 1 := IntWalk.i64_in _ (by omega)
  go_enter Tryd.func43, Tryd.ntmps43
  go_wp2_with (go_at_call 48; refine (HI.out _ (Below.refl _ _)).mono ?_; rintro e w1 ⟨rfl, hb1⟩; have HB1 := Aside0.mk hb1; clear hb1)
  go_loopg [6, 7, 16] (l.length + 1) (fun gg v6 v7 v16 wr => ∃ i : Nat, i ≤ l.length - 1 ∧ l.length - i < gg ∧ v6 = .int .i64 (if d = 0 then G i else 0 : Nat) ∧ v7 = .int .i64 (9 ^ i : Nat) ∧ v16 = .int .i64 i ∧ Aside0 (Below w.heap.size w wr))
  case atStart => exact ⟨0, by omega, by omega, by by_cases z : d = 0 <;> simp [z, G], rfl, rfl, HB1⟩
  case round =>
    obtain ⟨i, i1, i2, rfl, rfl, rfl, HB⟩ := hrel
    by_cases hi : i < l.length - 1
    · have p9 : 9 ^ i * 9 ≤ 2541865828329 := by rw [← Nat.pow_succ]; exact pow9_le (by omega)
      have g9 : G i + 9 ^ i * 9 ≤ 2859599056870 := by rw [← Nat.pow_succ, ← G_succ]; exact G_le (by omega)
      have PS : Aside0 (9 ^ (i + 1) = 9 ^ i * 9) := ⟨Nat.pow_succ ..⟩
      have GS : Aside0 (G (i + 1) = G i + 9 ^ i * 9) := ⟨by rw [G_succ, Nat.pow_succ]⟩
      generalize 9 ^ i = q at p9 g9 PS GS ⊢
      generalize G i = g at g9 GS ⊢
      by_cases z : d = 0
      · subst z
        simp only [if_pos]
        go_wp2
        go_roundg (l.length - i)
        case measure => omega
        case rel => exact ⟨i + 1, by omega, by omega, by rw [GS.out]; first | go_num | rfl, by rw [PS.out]; first | go_num | rfl, rfl, HB⟩
      · simp only [if_neg z]
        go_wp2
        go_roundg (l.length - i)
        case measure => omega
        case rel => exact ⟨i + 1, by omega, by omega, by rw [if_neg z], by rw [PS.out]; first | go_num | rfl, rfl, HB⟩
    · obtain rfl : i = l.length - 1 := by omega
      have cl0 : Aside0 (Cl d n l.length 0) := ⟨.inl rfl⟩
      have st0 : Aside0 (St d n l.length 0 = if d = 0 then G (l.length - 1) else 0) := ⟨rfl⟩
      rw [← st0.out]
      have pw0 : Aside0 ((9 ^ (l.length - 1) : Nat) = Pw l.length 0) := ⟨by unfold Pw; rw [if_pos (by omega), Nat.sub_zero]⟩
      rw [pw0.out]
      clear st0 pw0
      go_wp2
      go_loopg [6, 7, 28] (l.length + 1) (fun gg v6 v7 v28 wr => ∃ i : Nat, i ≤ l.length ∧ l.length - i < gg ∧ v6 = .int .i64 (St d n l.length i : Nat) ∧ v7 = .int .i64 (Pw l.length i : Nat) ∧ v28 = .int .i64 i ∧ Aside0 (Cl d n l.length i) ∧ Aside0 (Below w.heap.size w wr))
      case atStart => exact ⟨0, by omega, by omega, rfl, rfl, rfl, cl0, HB⟩
      case round =>
        obtain ⟨i, i1, i2, rfl, rfl, rfl, HC, HB⟩ := hrel
        by_cases hi : i < l.length
        · have hbyte := byte_at HG.out hi
          have hD : n / 10 ^ (l.length - 1 - i) % 10 < 10 := Nat.mod_lt _ (by omega)
          obtain ⟨i', hi'⟩ : ∃ i', i' = i + 1 := ⟨_, rfl⟩
          obtain ⟨m, hm⟩ : ∃ m, m = l.length - i := ⟨_, rfl⟩
          have hst := st_step EL.out hi HC.out hd
          have hle := St_le hd EL.out hl13 hn (i := i') (by omega)
          have hq := pow9_le (k := l.length - 1 - i) (by omega)
          have HCN := Aside0.mk (fun h => cl_step (d := d) hi h EL.out HC.out)
          have HEND := Aside0.mk (fun h => st_end (d := d) EL.out hi hd h)
          have hpw : Pw l.length i = 9 ^ (l.length - 1 - i) := by unfold Pw; rw [if_pos hi]
          have HPN := Aside0.mk (pw_next l.length i hi)
          rw [hpw]
          rw [← hi'] at hst HCN HEND HPN
          clear hpw HC
          have HB' := HB
          generalize n / 10 ^ (l.length - 1 - i) % 10 = D at hbyte hD hst HCN HEND
          generalize 9 ^ (l.length - 1 - i) = q at hst hq HPN ⊢
          obtain ⟨s', es'⟩ : ∃ s', s' = St d n l.length i' := ⟨_, rfl⟩
          rw [← es'] at hst hle HEND
          have ES := Aside0.mk es'
          clear es'
          generalize St d n l.length i = s at hst ⊢
          obtain ⟨X, hX⟩ : ∃ X : Int, X = less d D := ⟨_, rfl⟩
          have X0 : 0 ≤ X ∧ X ≤ D := by have := less_le (d := d) (r := D); omega
          have hS : (s : Int) + X * q = s' := by rw [hX]; exact_mod_cast hst
          have xq : 0 ≤ X * q := Int.mul_nonneg X0.1 (by omega)
          have ew : IntKind.i64.wrap (X * q) = X * q := IntWalk.i64_in _ (by omega)
          have hXv : X = if d < D then (D : Int) - 1 else D := by rw [hX]; unfold less; split <;> omega
          have HS := Aside0.mk hS
          have HX := Aside0.mk hXv
          clear hst hX
          have hb : ((str l)[i]'(by rw [str_size]; exact hi)).toNat = 48 + D := by
            have e : ((str l)[i]'(by rw [str_size]; exact hi)) = l[i] := rfl
            rw [e]; omega
          have ed : ((48 + (D : Int)) - 48) % 256 = D := by omega
          have ed2 : 48 + (D : Int) - 48 = D := by omega
          clear hbyte HG
          have em0 : max (-1 : Int) 0 = 0 := by decide
          have em1 : 0 < D → max ((D : Int) - 1) 0 = D - 1 := fun h => by omega
          have em2 : ¬ 0 < D → max ((D : Int) - 1) 0 = D := fun h => by omega
          by_cases hlt : d < D <;> by_cases hde : D = d <;> by_cases z : d = 0 <;> by_cases y : i = 0
          all_goals first | omega | skip
          all_goals
            first | rw [if_pos hlt] at hXv | rw [if_neg hlt] at hXv
            subst hXv
            first | (have em := em1 (by omega)) | (have em := em2 (by omega)) | skip
            clear em1 em2
            (try subst hde)
            (try subst z)
            (try subst y)
            go_wp2_with (go_at_call 59; refine (HBIT.out _ _).mono ?_; rintro e w2 ⟨rfl, ⟨nd, rfl⟩⟩)
          all_goals first
            | (go_roundg m
               case measure => omega
               case rel => exact ⟨i', by omega, by omega, by rw [← ES.out], by rw [HPN.out]; first | rfl | go_num, by rw [hi']; first | rfl | go_num, ⟨HCN.out (by omega)⟩, ⟨pw_below_drewN HB.out _⟩⟩)
            | (go_ret
               refine ⟨?_, by first | exact pw_below_drewN (pw_below_drewN HB.out _) _ | exact pw_below_drewN HB.out _⟩
               have h1 := HEND.out (by first | rfl | trivial)
               have h2 := HS.out
               rw [HRES.out]
               unfold bit0 at h1
               first | rw [if_pos rfl] at h1 | rw [if_neg (by omega)] at h1
               exact congrArg (fun z : Int => Ending.returned (Value.int IntKind.i64 z)) (by omega))
        · obtain rfl : i = l.length := by omega
          have hend := st_all EL.out hd HC.out
          have hle := St_le hd EL.out hl13 hn (i := l.length) (by omega)
          generalize St d n l.length l.length = s at hend hle ⊢
          have HE := Aside0.mk hend
          clear hend
          by_cases z : d = 0
          all_goals
            (try subst z)
            go_wp2_with (go_at_call 59; refine (HBIT.out _ _).mono ?_; rintro e w2 ⟨rfl, ⟨nd, rfl⟩⟩)
            go_ret
            refine ⟨?_, pw_below_drewN HB.out _⟩
            have h1 := HE.out
            rw [HRES.out]
            unfold bit0 at h1
            first | rw [if_pos rfl] at h1 | rw [if_neg (by omega)] at h1
            exact congrArg (fun z : Int => Ending.returned (Value.int IntKind.i64 z)) (by omega)
end Go.Proofs.YtkienapjmgjafaaDoor.HSums
