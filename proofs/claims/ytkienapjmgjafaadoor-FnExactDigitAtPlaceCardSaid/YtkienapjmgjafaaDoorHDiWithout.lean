/-
  CountWithout: the reference's function.
-/
import Derived.Test.YtkienapjmgjafaaDoorHWithoutW
namespace Go.Proofs.YtkienapjmgjafaaDoor.HSums
open Go.RowKit Go.Proofs.YtkienapjmgjafaaDoorW.PrintWords Go.Proofs.YtkienapjmgjafaaDoorW.PrintLast Go.Proofs.YtkienapjmgjafaaDoorW.PrintMore Go.Proofs.YtkienapjmgjafaaDoor.PNumberOfSum Go.Proofs.YtkienapjmgjafaaDoor.PdiSum Go.Proofs.YtkienapjmgjafaaDoor.PtkOf Go.Proofs.YtkienapjmgjafaaDoor.PtkWays Go.Proofs.YtkienapjmgjafaaDoor.Pl1In Go.Proofs.YtkienapjmgjafaaDoor.PsumOf
open Go.Lib (decDigits)
open Wo
set_option linter.unusedVariables false
set_option linter.unusedSimpArgs false

theorem sp_bound {d n L i : Nat} (hd : d ≤ 9) (hL : L = (decDigits n).length) (h13 : L ≤ 13) (hn : n ≤ 1000000000000) (hi : i ≤ L) : -1 ≤ Sp d n L i ∧ Sp d n L i ≤ 20000000000000 := by
  have h := St_le hd hL h13 hn hi
  have g := G_le (k := L - 1) (by omega)
  have p := pow9_le (k := L - 1) (by omega)
  have pp := Nat.pow_pos (n := L - 1) (show 0 < 9 by omega)
  have p2 : (9 : Int) ^ (L - 1) = ((9 ^ (L - 1) : Nat) : Int) := by push_cast; rfl
  unfold Sp bit0
  rw [p2]
  repeat' split
  all_goals omega

def a0 (d : Nat) : Nat := if d = 0 then 9 else 8
def c1 (d j : Nat) : Nat := if d = 0 then G j else 9 ^ j - 1
theorem c1_step (d j : Nat) : c1 d (j + 1) = c1 d j + a0 d * 9 ^ j := by
  unfold c1 a0
  have := Nat.pow_pos (n := j) (show 0 < 9 by omega)
  have := G_succ j
  have := Nat.pow_succ 9 j
  split <;> omega
theorem c1_le {d j : Nat} (h : j ≤ 13) : c1 d j ≤ 2859599056870 := by
  unfold c1
  have := G_le h
  have := pow9_le h
  split <;> omega
theorem c1_sp (d n L : Nat) : ((c1 d (L - 1) : Nat) : Int) = Sp d n L 0 := by
  unfold c1 Sp
  have := Nat.pow_pos (n := L - 1) (show 0 < 9 by omega)
  have p2 : (9 : Int) ^ (L - 1) = ((9 ^ (L - 1) : Nat) : Int) := by push_cast; rfl
  rw [if_pos rfl, p2]
  split <;> omega

theorem beq_cases (m : Nat) (x : Int) : (((m : Int) == x) = true ∧ ((m : Int) != x) = false ∧ Aside0 ((m : Int) = x)) ∨ (((m : Int) == x) = false ∧ ((m : Int) != x) = true ∧ Aside0 ((m : Int) ≠ x)) := by
  by_cases h : (m : Int) = x
  · exact .inl ⟨by simp [h], by simp [h], ⟨h⟩⟩
  · exact .inr ⟨by simp [h], by simp [h], ⟨h⟩⟩

set_option maxRecDepth 100000 in
set_option maxHeartbeats 4000000 in
theorem diWithout_zero (n : Nat) (hn : n ≤ 1000000000000) (hd : 0 ≤ 9) (w : World) : Calls Tryd.prog 41 #[.int .i64 n, .int .i64 0] w fun e w' => e = .returned (.int .i64 (Wo.W 0 n : Nat)) ∧ Below w.heap.size w w' := by
  have H1 := Aside0.mk (l1Num_any n (by omega))
  have HG := Aside0.mk (dd_get n)
  have hl13 : (decDigits n).length ≤ 13 := dd_len 13 (by omega) (by omega)
  have hl1 := dd_pos n
  obtain ⟨l, el⟩ : ∃ l, l = decDigits n := ⟨_, rfl⟩
  rw [← el] at H1 HG hl13 hl1
  have EL : Aside0 (l.length = (decDigits n).length) := ⟨by rw [el]⟩
  clear el
  have hsz := str_size l
  obtain ⟨res, hres⟩ : ∃ res : Int, res = (Wo.W 0 n : Nat) := ⟨_, rfl⟩
  rw [← hres]
  have HRES := Aside0.mk hres
  clear hres
  have HC1 : Aside0 (c1 0 0 = 0) := ⟨by unfold c1; split <;> rfl⟩
  have HCL0 : Aside0 (Cl 0 n l.length 0) := ⟨.inl rfl⟩
  have HSP0 := Aside0.mk (c1_sp 0 n l.length)
  have ha : a0 0 = 9 := by unfold a0; first | rfl | rw [if_neg z]
  have ad : a0 0 ≤ 9 := by rw [ha]; omega
  have HA := Aside0.mk ha
  clear ha
  skip
  go_enter Tryd.func41, Tryd.ntmps41
  go_wp2_with (go_at_call 46; refine (H1.out _).mono ?_; rintro e w1 ⟨rfl, hb1⟩)
  have HB1 := Aside0.mk hb1
  have sz1 := hb1.size
  clear hb1
  go_loopg [6, 7, 8] (l.length + 1) (fun gg v6 v7 v8 wr => ∃ j : Nat, j ≤ l.length - 1 ∧ l.length - j < gg ∧ v6 = .int .i64 (c1 0 j : Nat) ∧ v7 = .int .i64 (a0 0 * 9 ^ j : Nat) ∧ v8 = .int .i64 (j + 1 : Nat) ∧ wr = w1)
  case atStart => exact ⟨0, by omega, by omega, by rw [HC1.out]; rfl, by rw [HA.out]; rfl, rfl, rfl⟩
  case round =>
    obtain ⟨j, j1, j2, rfl, rfl, rfl, hwr⟩ := hrel
    obtain rfl : w1 = wr := hwr.symm
    by_cases hj : j < l.length - 1
    · have h1 := c1_le (d := 0) (j := j + 1) (by omega)
      rw [c1_step] at h1
      have h2 := pow9_le (k := j + 1) (by omega)
      rw [Nat.pow_succ] at h2
      have HS1 := Aside0.mk (c1_step 0 j)
      have h3 : a0 0 * 9 ^ j * 9 ≤ 9 * 2541865828329 := Nat.le_trans (Nat.le_of_eq (Nat.mul_assoc ..)) (Nat.mul_le_mul ad h2)
      have HP : Aside0 (a0 0 * 9 ^ (j + 1) = a0 0 * 9 ^ j * 9) := ⟨by rw [Nat.pow_succ, Nat.mul_assoc]⟩
      generalize a0 0 * 9 ^ j = q at h1 h3 HS1 HP ⊢
      generalize c1 0 j = g at h1 HS1 ⊢
      clear h2
      go_wp2
      go_roundg (l.length - j)
      case measure => omega
      case rel => exact ⟨j + 1, by omega, by omega, by rw [HS1.out]; first | rfl | go_num, by rw [HP.out]; first | rfl | go_num, by first | rfl | go_num, rfl⟩
    · obtain rfl : j = l.length - 1 := by omega
      rw [HSP0.out]
      clear HSP0
      go_wp2
      go_loopg [6] (l.length + 1) (fun gg v6 wr' => ∃ i : Nat, i ≤ l.length ∧ l.length - i < gg ∧ v6 = .int .i64 (Sp 0 n l.length i) ∧ Aside0 (Cl 0 n l.length i) ∧ Aside0 (Walker wr' w1.heap.size (str l) i) ∧ Aside0 (Below w.heap.size w wr'))
      case atStart => exact ⟨0, by omega, by omega, rfl, HCL0, ⟨walker_new w1 _⟩, ⟨below_iter HB1.out sz1 _ _⟩⟩
      case round =>
        obtain ⟨i, i1, i2, rfl, HC, HW, HB⟩ := hrel
        by_cases hi : i < l.length
        · have hbyte := byte_at HG.out hi
          have hD : n / 10 ^ (l.length - 1 - i) % 10 < 10 := Nat.mod_lt _ (by omega)
          have hsp := sp_step (d := 0) EL.out hi HC.out hd
          have hb0 := sp_bound (d := 0) (i := i) hd EL.out hl13 hn (by omega)
          have hb1 := sp_bound (d := 0) (i := i + 1) hd EL.out hl13 hn (by omega)
          have hq := pow9_le (k := l.length - 1 - i) (by omega)
          have HCN := Aside0.mk (fun h => cl_step (d := 0) hi h EL.out HC.out)
          have HEND := Aside0.mk (fun h => sp_end (d := 0) EL.out hi hd h)
          have HQ : Aside0 (9 ^ (l.length - 1 - i) = 9 ^ (l.length - (i + 1))) := ⟨by rw [show l.length - 1 - i = l.length - (i + 1) by omega]⟩
          rw [show (9 : Int) ^ (l.length - 1 - i) = ((9 ^ (l.length - 1 - i) : Nat) : Int) by push_cast; rfl] at hsp
          generalize n / 10 ^ (l.length - 1 - i) % 10 = D at hbyte hD hsp HCN HEND
          generalize 9 ^ (l.length - 1 - i) = q at hsp hq HQ
          obtain ⟨s', es'⟩ : ∃ s', s' = Sp 0 n l.length (i + 1) := ⟨_, rfl⟩
          rw [← es'] at hsp hb1 HEND
          have ES := Aside0.mk es'
          clear es'
          generalize Sp 0 n l.length i = s at hsp hb0 ⊢
          have HSP := Aside0.mk hsp
          clear hsp HC
          have hb : ((str l)[i]'(by rw [str_size]; exact hi)).toNat = 48 + D := by
            have e : ((str l)[i]'(by rw [str_size]; exact hi)) = l[i] := rfl
            rw [e]; omega
          have hnx : ∀ ty, (Instr.next (.pointer (some ⟨w1.heap.size, 0, none⟩)) true ty).run Tryd.prog wr = _ := fun ty => next_digit wr w1.heap.size (str l) i ty HW.out (by rw [str_size]; exact hi) (by rw [hb]; omega)
          have ed : ((48 + (D : Int)) - 48) % 256 = D := by omega
          have ed2 : 48 + (D : Int) - 48 = D := by omega
          go_wp2
          have HB2 := Aside0.mk (below_stand HB.out (b := w1.heap.size) sz1 (str l) (i + 1))
          have HW2 := Aside0.mk (walker_stand HW.out (i + 1))
          clear hnx HB HW
          generalize stand wr w1.heap.size (str l) (i + 1) = w2 at HB2 HW2 ⊢
          go_loopg [10, 11] (l.length + 1) (fun gg v10 v11 wx => ∃ k : Nat, i + 1 ≤ k ∧ k ≤ l.length ∧ l.length - k < gg ∧ v10 = .int .i64 (9 ^ (k - (i + 1)) : Nat) ∧ v11 = .int .i64 (k : Nat) ∧ wx = w2)
          case atStart => exact ⟨i + 1, by omega, by omega, by omega, by rw [Nat.sub_self]; rfl, by first | rfl | go_num, rfl⟩
          case round =>
            obtain ⟨k, k1, k2, k3, rfl, rfl, hwr⟩ := hrel
            obtain rfl : w2 = wr := hwr.symm
            by_cases hk : k < l.length
            · have hp := pow9_le (k := k - (i + 1) + 1) (by omega)
              have HP : Aside0 (9 ^ (k + 1 - (i + 1)) = 9 ^ (k - (i + 1)) * 9) := ⟨by rw [show k + 1 - (i + 1) = k - (i + 1) + 1 by omega, Nat.pow_succ]⟩
              rw [Nat.pow_succ] at hp
              generalize 9 ^ (k - (i + 1)) = x at hp HP ⊢
              go_wp2
              go_roundg (l.length - k)
              case measure => omega
              case rel => exact ⟨k + 1, by omega, by omega, by omega, by rw [HP.out]; first | rfl | go_num, by first | rfl | go_num, rfl⟩
            · obtain rfl : k = l.length := by omega
              rw [← HQ.out]
              clear HQ
              go_wp2
              go_loopg [6, 12] (D + 1) (fun gg v6 v12 wy => ∃ (m : Nat) (y : Int), m ≤ D ∧ D - m < gg ∧ v6 = .int .i64 y ∧ v12 = .int .i64 (m : Nat) ∧ -1 ≤ y ∧ y ≤ 20000000000000 + 2541865828329 * m ∧ Aside0 (y = s + (cnt 0 i m : Int) * q) ∧ wy = w2)
              case atStart => exact ⟨0, s, by omega, by omega, rfl, rfl, by omega, by omega, ⟨by simp [cnt]⟩, rfl⟩
              case round =>
                obtain ⟨m, y, m1, m2, rfl, rfl, y1, y2, HY, hwr⟩ := hrel
                obtain rfl : w2 = wr := hwr.symm
                by_cases hm : m < D
                · have HN : Aside0 (cnt 0 i (m + 1) = cnt 0 i m + if m ≠ 0 ∧ (0 < i ∨ 0 < m) then 1 else 0) := ⟨rfl⟩
                  have HYp : Aside0 ((m ≠ 0 ∧ (0 < i ∨ 0 < m)) → y + q = s + (cnt 0 i (m + 1) : Int) * q) := ⟨fun cc => by rw [HN.out, if_pos cc, HY.out]; push_cast; grind⟩
                  have HYn : Aside0 (¬ (m ≠ 0 ∧ (0 < i ∨ 0 < m)) → y = s + (cnt 0 i (m + 1) : Int) * q) := ⟨fun cc => by rw [HN.out, if_neg cc, HY.out]; simp⟩
                  clear HN HY
                  rcases beq_cases m 0 with ⟨q1, q2, C⟩ | ⟨q1, q2, C⟩ <;> by_cases c2 : i = 0 <;> by_cases c3 : m = 0
                  all_goals first | (exfalso; have := C.out; omega) | skip
                  all_goals
                    first
                      | (have hy := Aside0.mk (HYp.out (by have := C.out; omega)))
                      | (have hy := Aside0.mk (HYn.out (by have := C.out; omega)))
                    clear HYp HYn
                    (try subst c2)
                    go_wp2
                    go_roundg (D - m)
                    case measure => omega
                    case rel => first
                      | exact ⟨m + 1, y, by omega, by omega, rfl, by first | rfl | go_num | (congr 1; omega), by omega, by omega, hy, rfl⟩
                      | exact ⟨m + 1, y + q, by omega, by omega, rfl, by first | rfl | go_num | (congr 1; omega), by omega, by omega, hy, rfl⟩
                · obtain rfl : m = D := by omega
                  have HYS : Aside0 (y = s') := ⟨by rw [HY.out, HSP.out]⟩
                  clear HY HSP
                  rcases beq_cases m 0 with ⟨q1, q2, C⟩ | ⟨q1, q2, C⟩
                  · go_wp2
                    go_ret
                    refine ⟨?_, HB2.out⟩
                    have h1 := HEND.out (by have := C.out; omega)
                    exact congrArg (fun z : Int => Ending.returned (Value.int IntKind.i64 z)) (by rw [HYS.out, h1, HRES.out])
                  · go_wp2
                    go_roundg (l.length - i)
                    case measure => omega
                    case rel => exact ⟨i + 1, by omega, by omega, by rw [← ES.out, HYS.out], ⟨HCN.out (by have := C.out; omega)⟩, HW2, HB2⟩
        · obtain rfl : i = l.length := by omega
          have hnx : ∀ ty, (Instr.next (.pointer (some ⟨w1.heap.size, 0, none⟩)) true ty).run Tryd.prog wr = _ := fun ty => next_none wr w1.heap.size (str l) l.length ty HW.out (by rw [str_size]; omega)
          have hb0 := sp_bound (d := 0) (i := l.length) hd EL.out hl13 hn (by omega)
          have HE := Aside0.mk (fun h : 1 ≤ n => sp_all (d := 0) EL.out h hd HC.out)
          clear HC
          generalize Sp 0 n l.length l.length = s at hb0 HE ⊢
          by_cases hn0 : n = 0
          · have h0 : Aside0 (res = 0) := ⟨by rw [HRES.out, hn0]; rfl⟩
            go_wp2
            go_ret
            exact ⟨congrArg (fun z : Int => Ending.returned (Value.int IntKind.i64 z)) h0.out.symm, HB.out⟩
          · go_wp2
            go_ret
            have h1 := HE.out (by omega)
            exact ⟨congrArg (fun z : Int => Ending.returned (Value.int IntKind.i64 z)) (by rw [HRES.out, ← h1]), HB.out⟩


set_option maxRecDepth 100000 in
set_option maxHeartbeats 4000000 in
theorem diWithout_more (n d : Nat) (hn : n ≤ 1000000000000) (hd : d ≤ 9) (z : ¬ d = 0) (w : World) : Calls Tryd.prog 41 #[.int .i64 n, .int .i64 d] w fun e w' => e = .returned (.int .i64 (Wo.W d n : Nat)) ∧ Below w.heap.size w w' := by
  have H1 := Aside0.mk (l1Num_any n (by omega))
  have HG := Aside0.mk (dd_get n)
  have hl13 : (decDigits n).length ≤ 13 := dd_len 13 (by omega) (by omega)
  have hl1 := dd_pos n
  obtain ⟨l, el⟩ : ∃ l, l = decDigits n := ⟨_, rfl⟩
  rw [← el] at H1 HG hl13 hl1
  have EL : Aside0 (l.length = (decDigits n).length) := ⟨by rw [el]⟩
  clear el
  have hsz := str_size l
  obtain ⟨res, hres⟩ : ∃ res : Int, res = (Wo.W d n : Nat) := ⟨_, rfl⟩
  rw [← hres]
  have HRES := Aside0.mk hres
  clear hres
  have HC1 : Aside0 (c1 d 0 = 0) := ⟨by unfold c1; split <;> rfl⟩
  have HCL0 : Aside0 (Cl d n l.length 0) := ⟨.inl rfl⟩
  have HSP0 := Aside0.mk (c1_sp d n l.length)
  have ha : a0 d = 8 := by unfold a0; first | rfl | rw [if_neg z]
  have ad : a0 d ≤ 9 := by rw [ha]; omega
  have HA := Aside0.mk ha
  clear ha
  have zz : ((d : Int) == 0) = false := by simp [z]
  go_enter Tryd.func41, Tryd.ntmps41
  go_wp2_with (go_at_call 46; refine (H1.out _).mono ?_; rintro e w1 ⟨rfl, hb1⟩)
  have HB1 := Aside0.mk hb1
  have sz1 := hb1.size
  clear hb1
  go_loopg [6, 7, 8] (l.length + 1) (fun gg v6 v7 v8 wr => ∃ j : Nat, j ≤ l.length - 1 ∧ l.length - j < gg ∧ v6 = .int .i64 (c1 d j : Nat) ∧ v7 = .int .i64 (a0 d * 9 ^ j : Nat) ∧ v8 = .int .i64 (j + 1 : Nat) ∧ wr = w1)
  case atStart => exact ⟨0, by omega, by omega, by rw [HC1.out]; rfl, by rw [HA.out]; rfl, rfl, rfl⟩
  case round =>
    obtain ⟨j, j1, j2, rfl, rfl, rfl, hwr⟩ := hrel
    obtain rfl : w1 = wr := hwr.symm
    by_cases hj : j < l.length - 1
    · have h1 := c1_le (d := d) (j := j + 1) (by omega)
      rw [c1_step] at h1
      have h2 := pow9_le (k := j + 1) (by omega)
      rw [Nat.pow_succ] at h2
      have HS1 := Aside0.mk (c1_step d j)
      have h3 : a0 d * 9 ^ j * 9 ≤ 9 * 2541865828329 := Nat.le_trans (Nat.le_of_eq (Nat.mul_assoc ..)) (Nat.mul_le_mul ad h2)
      have HP : Aside0 (a0 d * 9 ^ (j + 1) = a0 d * 9 ^ j * 9) := ⟨by rw [Nat.pow_succ, Nat.mul_assoc]⟩
      generalize a0 d * 9 ^ j = q at h1 h3 HS1 HP ⊢
      generalize c1 d j = g at h1 HS1 ⊢
      clear h2
      go_wp2
      go_roundg (l.length - j)
      case measure => omega
      case rel => exact ⟨j + 1, by omega, by omega, by rw [HS1.out]; first | rfl | go_num, by rw [HP.out]; first | rfl | go_num, by first | rfl | go_num, rfl⟩
    · obtain rfl : j = l.length - 1 := by omega
      rw [HSP0.out]
      clear HSP0
      go_wp2
      go_loopg [6] (l.length + 1) (fun gg v6 wr' => ∃ i : Nat, i ≤ l.length ∧ l.length - i < gg ∧ v6 = .int .i64 (Sp d n l.length i) ∧ Aside0 (Cl d n l.length i) ∧ Aside0 (Walker wr' w1.heap.size (str l) i) ∧ Aside0 (Below w.heap.size w wr'))
      case atStart => exact ⟨0, by omega, by omega, rfl, HCL0, ⟨walker_new w1 _⟩, ⟨below_iter HB1.out sz1 _ _⟩⟩
      case round =>
        obtain ⟨i, i1, i2, rfl, HC, HW, HB⟩ := hrel
        by_cases hi : i < l.length
        · have hbyte := byte_at HG.out hi
          have hD : n / 10 ^ (l.length - 1 - i) % 10 < 10 := Nat.mod_lt _ (by omega)
          have hsp := sp_step (d := d) EL.out hi HC.out hd
          have hb0 := sp_bound (d := d) (i := i) hd EL.out hl13 hn (by omega)
          have hb1 := sp_bound (d := d) (i := i + 1) hd EL.out hl13 hn (by omega)
          have hq := pow9_le (k := l.length - 1 - i) (by omega)
          have HCN := Aside0.mk (fun h => cl_step (d := d) hi h EL.out HC.out)
          have HEND := Aside0.mk (fun h => sp_end (d := d) EL.out hi hd h)
          have HQ : Aside0 (9 ^ (l.length - 1 - i) = 9 ^ (l.length - (i + 1))) := ⟨by rw [show l.length - 1 - i = l.length - (i + 1) by omega]⟩
          rw [show (9 : Int) ^ (l.length - 1 - i) = ((9 ^ (l.length - 1 - i) : Nat) : Int) by push_cast; rfl] at hsp
          generalize n / 10 ^ (l.length - 1 - i) % 10 = D at hbyte hD hsp HCN HEND
          generalize 9 ^ (l.length - 1 - i) = q at hsp hq HQ
          obtain ⟨s', es'⟩ : ∃ s', s' = Sp d n l.length (i + 1) := ⟨_, rfl⟩
          rw [← es'] at hsp hb1 HEND
          have ES := Aside0.mk es'
          clear es'
          generalize Sp d n l.length i = s at hsp hb0 ⊢
          have HSP := Aside0.mk hsp
          clear hsp HC
          have hb : ((str l)[i]'(by rw [str_size]; exact hi)).toNat = 48 + D := by
            have e : ((str l)[i]'(by rw [str_size]; exact hi)) = l[i] := rfl
            rw [e]; omega
          have hnx : ∀ ty, (Instr.next (.pointer (some ⟨w1.heap.size, 0, none⟩)) true ty).run Tryd.prog wr = _ := fun ty => next_digit wr w1.heap.size (str l) i ty HW.out (by rw [str_size]; exact hi) (by rw [hb]; omega)
          have ed : ((48 + (D : Int)) - 48) % 256 = D := by omega
          have ed2 : 48 + (D : Int) - 48 = D := by omega
          go_wp2
          have HB2 := Aside0.mk (below_stand HB.out (b := w1.heap.size) sz1 (str l) (i + 1))
          have HW2 := Aside0.mk (walker_stand HW.out (i + 1))
          clear hnx HB HW
          generalize stand wr w1.heap.size (str l) (i + 1) = w2 at HB2 HW2 ⊢
          go_loopg [10, 11] (l.length + 1) (fun gg v10 v11 wx => ∃ k : Nat, i + 1 ≤ k ∧ k ≤ l.length ∧ l.length - k < gg ∧ v10 = .int .i64 (9 ^ (k - (i + 1)) : Nat) ∧ v11 = .int .i64 (k : Nat) ∧ wx = w2)
          case atStart => exact ⟨i + 1, by omega, by omega, by omega, by rw [Nat.sub_self]; rfl, by first | rfl | go_num, rfl⟩
          case round =>
            obtain ⟨k, k1, k2, k3, rfl, rfl, hwr⟩ := hrel
            obtain rfl : w2 = wr := hwr.symm
            by_cases hk : k < l.length
            · have hp := pow9_le (k := k - (i + 1) + 1) (by omega)
              have HP : Aside0 (9 ^ (k + 1 - (i + 1)) = 9 ^ (k - (i + 1)) * 9) := ⟨by rw [show k + 1 - (i + 1) = k - (i + 1) + 1 by omega, Nat.pow_succ]⟩
              rw [Nat.pow_succ] at hp
              generalize 9 ^ (k - (i + 1)) = x at hp HP ⊢
              go_wp2
              go_roundg (l.length - k)
              case measure => omega
              case rel => exact ⟨k + 1, by omega, by omega, by omega, by rw [HP.out]; first | rfl | go_num, by first | rfl | go_num, rfl⟩
            · obtain rfl : k = l.length := by omega
              rw [← HQ.out]
              clear HQ
              go_wp2
              go_loopg [6, 12] (D + 1) (fun gg v6 v12 wy => ∃ (m : Nat) (y : Int), m ≤ D ∧ D - m < gg ∧ v6 = .int .i64 y ∧ v12 = .int .i64 (m : Nat) ∧ -1 ≤ y ∧ y ≤ 20000000000000 + 2541865828329 * m ∧ Aside0 (y = s + (cnt d i m : Int) * q) ∧ wy = w2)
              case atStart => exact ⟨0, s, by omega, by omega, rfl, rfl, by omega, by omega, ⟨by simp [cnt]⟩, rfl⟩
              case round =>
                obtain ⟨m, y, m1, m2, rfl, rfl, y1, y2, HY, hwr⟩ := hrel
                obtain rfl : w2 = wr := hwr.symm
                by_cases hm : m < D
                · have HN : Aside0 (cnt d i (m + 1) = cnt d i m + if m ≠ d ∧ (0 < i ∨ 0 < m) then 1 else 0) := ⟨rfl⟩
                  have HYp : Aside0 ((m ≠ d ∧ (0 < i ∨ 0 < m)) → y + q = s + (cnt d i (m + 1) : Int) * q) := ⟨fun cc => by rw [HN.out, if_pos cc, HY.out]; push_cast; grind⟩
                  have HYn : Aside0 (¬ (m ≠ d ∧ (0 < i ∨ 0 < m)) → y = s + (cnt d i (m + 1) : Int) * q) := ⟨fun cc => by rw [HN.out, if_neg cc, HY.out]; simp⟩
                  clear HN HY
                  rcases beq_cases m (d : Int) with ⟨q1, q2, C⟩ | ⟨q1, q2, C⟩ <;> by_cases c2 : i = 0 <;> by_cases c3 : m = 0
                  all_goals first | (exfalso; have := C.out; omega) | skip
                  all_goals
                    first
                      | (have hy := Aside0.mk (HYp.out (by have := C.out; omega)))
                      | (have hy := Aside0.mk (HYn.out (by have := C.out; omega)))
                    clear HYp HYn
                    (try subst c2)
                    go_wp2
                    go_roundg (D - m)
                    case measure => omega
                    case rel => first
                      | exact ⟨m + 1, y, by omega, by omega, rfl, by first | rfl | go_num | (congr 1; omega), by omega, by omega, hy, rfl⟩
                      | exact ⟨m + 1, y + q, by omega, by omega, rfl, by first | rfl | go_num | (congr 1; omega), by omega, by omega, hy, rfl⟩
                · obtain rfl : m = D := by omega
                  have HYS : Aside0 (y = s') := ⟨by rw [HY.out, HSP.out]⟩
                  clear HY HSP
                  rcases beq_cases m (d : Int) with ⟨q1, q2, C⟩ | ⟨q1, q2, C⟩
                  · go_wp2
                    go_ret
                    refine ⟨?_, HB2.out⟩
                    have h1 := HEND.out (by have := C.out; omega)
                    exact congrArg (fun z : Int => Ending.returned (Value.int IntKind.i64 z)) (by rw [HYS.out, h1, HRES.out])
                  · go_wp2
                    go_roundg (l.length - i)
                    case measure => omega
                    case rel => exact ⟨i + 1, by omega, by omega, by rw [← ES.out, HYS.out], ⟨HCN.out (by have := C.out; omega)⟩, HW2, HB2⟩
        · obtain rfl : i = l.length := by omega
          have hnx : ∀ ty, (Instr.next (.pointer (some ⟨w1.heap.size, 0, none⟩)) true ty).run Tryd.prog wr = _ := fun ty => next_none wr w1.heap.size (str l) l.length ty HW.out (by rw [str_size]; omega)
          have hb0 := sp_bound (d := d) (i := l.length) hd EL.out hl13 hn (by omega)
          have HE := Aside0.mk (fun h : 1 ≤ n => sp_all (d := d) EL.out h hd HC.out)
          clear HC
          generalize Sp d n l.length l.length = s at hb0 HE ⊢
          by_cases hn0 : n = 0
          · have h0 : Aside0 (res = 0) := ⟨by rw [HRES.out, hn0]; rfl⟩
            go_wp2
            go_ret
            exact ⟨congrArg (fun z : Int => Ending.returned (Value.int IntKind.i64 z)) h0.out.symm, HB.out⟩
          · go_wp2
            go_ret
            have h1 := HE.out (by omega)
            exact ⟨congrArg (fun z : Int => Ending.returned (Value.int IntKind.i64 z)) (by rw [HRES.out, ← h1]), HB.out⟩

end Go.Proofs.YtkienapjmgjafaaDoor.HSums
