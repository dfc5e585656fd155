/-
  spec.diOfSum: how many of the numbers from 1 up to one have a digit sum.
-/
import Derived.Test.YtkienapjmgjafaaDoorHOfSum
import Derived.WalkKit
import Derived.RegionTactic
import Derived.Deep.LoopGhost
import Derived.Laws.RangeAny
import Derived.IntWalk
import Derived.Deep.RegionWith
namespace Go.Proofs.YtkienapjmgjafaaDoor.HSums
open Go.RowKit Go.Proofs.YtkienapjmgjafaaDoorW.PrintWords Go.Proofs.YtkienapjmgjafaaDoorW.PrintLast Go.Proofs.YtkienapjmgjafaaDoorW.PrintMore Go.Proofs.YtkienapjmgjafaaDoor.PNumberOfSum Go.Proofs.YtkienapjmgjafaaDoor.PdiSum Go.Proofs.YtkienapjmgjafaaDoor.PtkOf Go.Proofs.YtkienapjmgjafaaDoor.PtkWays Go.Proofs.YtkienapjmgjafaaDoor.Pl1In
open Go.Lib (decDigits)
set_option linter.unusedVariables false
set_option linter.unusedSimpArgs false

/-- the walker over a text stands elsewhere -/
def stand (w : World) (b : Nat) (s : ByteArray) (p : Nat) : World := { w with heap := w.heap.setIfInBounds b (.stringIter s p) }

/-- a walker over a text -/
def Walker (w : World) (b : Nat) (s : ByteArray) (p : Nat) : Prop := w.heap[b]? = some (.stringIter s p)

theorem Walker.lt {w : World} {b p : Nat} {s : ByteArray} (h : Walker w b s p) : b < w.heap.size := (Array.getElem?_eq_some_iff.1 h).1

theorem walker_new (w : World) (s : ByteArray) : Walker (w.iter s 0) w.heap.size s 0 := World.iter_heap w s 0

theorem walker_stand {w : World} {b p : Nat} {s : ByteArray} (h : Walker w b s p) (p' : Nat) : Walker (stand w b s p') b s p' := by
  have := h.lt
  simp [Walker, stand, this]

theorem walker_below {B : Nat} {w w' : World} {b p : Nat} {s : ByteArray} (h : Walker w b s p) (hb : Below B w w') (hB : b < B) : Walker w' b s p := by
  unfold Walker; rw [hb.block b hB]; exact h

theorem below_stand {B : Nat} {w0 w : World} (h : Below B w0 w) {b : Nat} (hb : B ≤ b) (s : ByteArray) (p : Nat) : Below B w0 (stand w b s p) :=
  ⟨h.os, h.tape, h.output, by simp [stand]; exact h.size, fun k hk => by
    rw [← h.block k hk]
    simp only [stand]
    rw [Array.getElem?_setIfInBounds_ne (by omega)]⟩

theorem below_iter {B : Nat} {w0 w : World} (h : Below B w0 w) (hB : B ≤ w.heap.size) (s : ByteArray) (p : Nat) : Below B w0 (w.iter s p) := h.alloc hB _

section
variable {P : Program}
theorem next_digit (w : World) (b : Nat) (s : ByteArray) (pos : Nat) (ty : TypeId) (hw : Walker w b s pos) (h : pos < s.size) (ha : (s[pos]'h).toNat < 128) :
    (Instr.next (.pointer (some ⟨b, 0, none⟩)) true ty).run P w = .ok (.tuple #[.bool true, .int .i64 pos, .int .i32 (s[pos]'h).toNat]) (stand w b s (pos + 1)) := by
  have hw' : w.heap[b]? = some (.stringIter s pos) := hw
  simp only [Instr.next, getObj, setObj, Sem.run_bind, Sem.run, hw', Result.andThen, h, if_true, decode_ascii s pos h ha]
  simp [goInt, Sem.run, hw', stand]
theorem next_none (w : World) (b : Nat) (s : ByteArray) (pos : Nat) (ty : TypeId) (hw : Walker w b s pos) (h : ¬ pos < s.size) :
    (Instr.next (.pointer (some ⟨b, 0, none⟩)) true ty).run P w = .ok (.tuple #[.bool false]) w := by
  have hw' : w.heap[b]? = some (.stringIter s pos) := hw
  simp [Instr.next, getObj, Sem.run, hw', h]
end

/-- the reckoned list at a rest -/
def OutW (n : Nat) (w : World) (e : Ending) (w' : World) : Prop :=
  ∃ A c, e = .returned (.slice A (W n).length c) ∧ Aside0 ((W n).length ≤ c ∧ Kd.C (Kd.int .i64) w' A (W n).length (W n)) ∧ Aside0 (Below w.heap.size w w')

theorem tkWays_any (n : Nat) (h : n ≤ 13) (w : World) : Calls Tryd.prog 67 #[.int .i64 n] w (OutW n w) := by
  obtain ⟨c, e⟩ := tkWays_some
  refine (spec_tkWays.calls c n (W n) w (e c n (Nat.le_refl _) h)).mono ?_
  rintro e w' ⟨v, rfl, hR, hb⟩
  obtain ⟨A, cc, rfl⟩ := Kd.R_slice hR
  exact ⟨A, cc, rfl, ⟨(Kd.R_reads' hR).2⟩, ⟨hb⟩⟩

theorem l1Num_any (n : Nat) (h : n ≤ 9223372036854775807) (w : World) : Calls Tryd.prog 46 #[.int .i64 n] w fun e w' => e = .returned (.string (str (decDigits n))) ∧ Below w.heap.size w w' :=
  spec_l1Num.calls _ n _ w (l1Num_eq _ n (Nat.le_refl _) h)

theorem tkSum_any (l : List UInt8) (hl : D10 l) (h1 : l.length ≤ 1000) (w : World) : Calls Tryd.prog 57 #[.string (str l)] w fun e w' => e = .returned (.int .i64 (sumB l)) ∧ Drawn0 w w' :=
  spec_tkSum.calls _ _ _ w (tkSum_eq l hl h1 (l.length + 1) (by omega))

theorem tkOf_any (n : Nat) (s : Int) {A : Option Addr} {c : Nat} (w : World) (h : (W n).length ≤ c ∧ Kd.C (Kd.int .i64) w A (W n).length (W n)) : Calls Tryd.prog 66 #[.slice A (W n).length c, .int .i64 s] w fun e w' => e = .returned (.int .i64 (C n s)) ∧ Drawn0 w w' :=
  spec_tkOf.calls A c (W n) s _ w h.2 h.1 (tkOf_eq n s)

theorem diSum_any (n : Nat) (h : n ≤ 9223372036854775807) (w : World) : Calls Tryd.prog 37 #[.int .i64 n] w fun e w' => e = .returned (.int .i64 (ds n)) ∧ Below w.heap.size w w' :=
  spec_diSum.calls 25 n _ w (diSum_eq n h 25 (by omega))

/-- the number's beginning of i digits, and what belongs to it -/
structure At (n l i : Nat) (p D r : Nat) : Prop where
  r1 : i + 1 + r = l
  p1 : p = n / 10 ^ (l - i)
  d1 : D = n / 10 ^ r % 10
  n1 : n / 10 ^ (l - (i + 1)) = 10 * p + D

theorem at_of (n l i : Nat) (h : i < l) : At n l i (n / 10 ^ (l - i)) (n / 10 ^ (l - 1 - i) % 10) (l - 1 - i) := by
  refine ⟨by omega, rfl, rfl, ?_⟩
  rw [show l - (i + 1) = l - 1 - i by omega, show l - i = (l - 1 - i) + 1 by omega, Nat.pow_succ, ← Nat.div_div_eq_div_mul]
  omega

def diOfSum.T9 : Bool × List (List Nat × List Nat) := (true, [([], []), ([], []), ([1], [1]), ([2], [2]), ([], []), ([3, 4], [3, 4]), ([5], [5]), ([], []), ([], []), ([], []), ([8, 9], [8, 9]), ([10, 6], [10]), ([7, 11], [7, 11]), ([], []), ([12, 13], [12, 13]), ([6, 14, 11], [6, 14]), ([0, 15], [0, 15]), ([16, 15, 0, 1, 2, 3, 4, 5, 6, 7, 8, 9, 10, 11, 12, 13, 14, 15, 16], [0, 16])])
def diOfSum.B9 : List Nat := [0, 0, 2, 6, 0, 30, 62, 0, 0, 0, 768, 1918, 4094, 0, 16382, 32766, 65535, 131071]
theorem diOfSum.tab9 : rtab .any (opsOf Tryd.f53 9) = diOfSum.T9 := by kernel_rfl
theorem diOfSum.bits9 : waitsOk diOfSum.T9.2 diOfSum.B9 = true := by kernel_rfl

set_option maxRecDepth 100000 in
set_option maxHeartbeats 4000000 in
theorem diOfSum_all (n : Nat) (n2 : n ≤ 1000000000000) (s : Int) (s0 : 0 ≤ s) (s1 : s ≤ 9223372036854775807) (w : World) :
    Calls Tryd.prog 53 #[.int .i64 n, .int .i64 s] w fun e w' => e = .returned (.int .i64 ((N s (n + 1) : Int) - if s = 0 then 1 else 0)) ∧ Below w.heap.size w w' := by
  obtain ⟨res, hres⟩ : ∃ res : Int, res = (N s (n + 1) : Int) - if s = 0 then 1 else 0 := ⟨_, rfl⟩
  rw [← hres]
  have HRES := Aside0.mk hres
  clear hres
  have H1 := Aside0.mk (l1Num_any n (by omega))
  have HD := Aside0.mk (dd_d10 n)
  have HG := Aside0.mk (dd_get n)
  have hl13 : (decDigits n).length ≤ 13 := dd_len 13 (by omega) (by omega)
  obtain ⟨l, el⟩ : ∃ l, l = decDigits n := ⟨_, rfl⟩
  rw [← el] at H1 HD HG hl13
  have EL := Aside0.mk el
  clear el
  go_enter Tryd.func53, Tryd.ntmps53
  go_wp2_with (go_at_call 46; refine (H1.out _).mono ?_; rintro e w1 ⟨rfl, hb1⟩)
  have HB1 := Aside0.mk hb1
  have sz1 := hb1.size
  clear hb1
  go_loopg [5] (l.length + 1) (fun gg v5 wr => ∃ i : Nat, i ≤ l.length ∧ l.length - i < gg ∧ v5 = .int .i64 (N s (n / 10 ^ (l.length - i) * 10 ^ (l.length - i)) : Nat) ∧ Aside0 (Walker wr w1.heap.size (str l) i) ∧ Aside0 (Below w.heap.size w wr))
  case atStart => exact ⟨0, by omega, by omega, by rw [Nat.sub_zero, Nat.div_eq_of_lt (by rw [EL.out]; exact dd_lt n), Nat.zero_mul]; rfl, ⟨walker_new w1 _⟩, ⟨below_iter HB1.out sz1 _ _⟩⟩
  case round =>
    obtain ⟨i, i1, i2, rfl, HW, HB⟩ := hrel
    by_cases hi : i < l.length
    · obtain ⟨p, D, r, ha⟩ : ∃ p D r, At n l.length i p D r := ⟨_, _, _, at_of n l.length i hi⟩
      have hD : D < 10 := by rw [ha.d1]; omega
      have hbyte : ((str l)[i]'(by rw [str_size]; exact hi)).toNat = 48 + D := by
        have e := HG.out i hi
        rw [List.getElem?_eq_getElem hi, show l.length - 1 - i = r by have := ha.r1; omega, ← ha.d1] at e
        rw [show ((str l)[i]'(by rw [str_size]; exact hi)) = l[i] from rfl, Option.some.inj e, digit_byte hD]
      have hsz := str_size l
      have hnx : ∀ ty, (Instr.next (.pointer (some ⟨w1.heap.size, 0, none⟩)) true ty).run Tryd.prog wr = _ := fun ty => next_digit wr w1.heap.size (str l) i ty HW.out (by rw [str_size]; exact hi) (by rw [hbyte]; omega)
      go_wp2
      have HB2 := Aside0.mk (below_stand HB.out (b := w1.heap.size) sz1 (str l) (i + 1))
      have HW2 := Aside0.mk (walker_stand HW.out (i + 1))
      clear hnx HB HW
      generalize stand wr w1.heap.size (str l) (i + 1) = w2 at HB2 HW2 ⊢
      go_loopg [5, 8] (D + 1) (fun gg v5 v8 wr => ∃ d : Nat, d ≤ D ∧ D - d < gg ∧ v8 = .int .i64 d ∧ v5 = .int .i64 (N s ((10 * p + d) * 10 ^ r) : Nat) ∧ Aside0 (Walker wr w1.heap.size (str l) (i + 1)) ∧ Aside0 (Below w.heap.size w wr))
      case atStart => exact ⟨0, by omega, by omega, rfl, by rw [← ha.p1, show l.length - i = r + 1 by have := ha.r1; omega, show (10 * p + 0) * 10 ^ r = p * 10 ^ (r + 1) by rw [Nat.add_zero, Nat.pow_succ]; grind], HW2, HB2⟩
      case round =>
        obtain ⟨d, d1, d2, rfl, rfl, HW3, HB3⟩ := hrel
        by_cases hd : d < D
        · go_wp2
          have r13 : r ≤ 13 := by have := ha.r1; omega
          have HTK := Aside0.mk (fun W => tkSum_any (l.take i) (fun b hb => HD.out b (List.mem_of_mem_take hb)) (by rw [List.length_take]; omega) W)
          have HTW := Aside0.mk (fun W => tkWays_any r r13 W)
          have sr := sumB_range (l := l.take i) (fun b hb => HD.out b (List.mem_of_mem_take hb))
          have lt : (l.take i).length = i := by rw [List.length_take]; omega
          rw [lt] at sr
          have et : (str l).extract 0 i = str (l.take i) := by
            apply ByteArray.ext
            simp [ByteArray.data_extract]
          obtain ⟨q, hq⟩ : ∃ q, q = sumB (l.take i) := ⟨_, rfl⟩
          rw [← hq] at sr HTK
          have HQ := Aside0.mk hq
          clear hq
          have e1 : IntKind.i64.wrap ((l.length : Int) - 1) = (l.length : Int) - 1 := IntWalk.i64_in _ (by omega)
          have e2 : IntKind.i64.wrap ((l.length : Int) - 1 - i) = (r : Int) := by rw [IntWalk.i64_in _ (by have := ha.r1; omega)]; have := ha.r1; omega
          have e3 : IntKind.i64.wrap (s - q) = s - q := IntWalk.i64_in _ (by omega)
          have e4 : IntKind.i64.wrap (s - q - d) = s - q - d := IntWalk.i64_in _ (by omega)
          have i0 : (0 : Int) ≤ i := by omega
          have i9 : (i : Int) ≤ (str l).size := by rw [hsz]; omega
          have i8 : i ≤ (str l).size := by rw [hsz]; omega
          refine start_ (n := 18) (S := fun w' => True) (ds := []) #[false, false, false, false, false, false, false, false, false, false, false, false, false, false, false, false, false, false] (by kernel_rfl) rfl rfl trivial (fun hHeld => ?_); refine with_tabW diOfSum.tab9 diOfSum.bits9 (fun HT_ HW_ => ?_)
          refine pure_ (i := 0) (N := some 25) (v := ?_) (a' := ?_) #[true, false, false, false, false, false, false, false, false, false, false, false, false, false, false, false, false, false] rfl rfl (any_of HT_.out (by kernel_rfl)) (fun _ _ _ h => h) (Or.inl ⟨by rfl, ?_⟩) ?_ ?_
          rotate_left
          · intro w'
            go_simp
            with_reducible rfl
          rotate_left
          · simp only [Act.put, List.setIfInBounds_toArray, List.set_cons_zero, List.set_cons_succ, i64_w, i32_w]
            rfl
          refine pure_ (i := 1) (N := some 26) (v := ?_) (a' := ?_) #[true, true, false, false, false, false, false, false, false, false, false, false, false, false, false, false, false, false] rfl rfl (any_of HT_.out (by kernel_rfl)) (fun _ _ _ h => h) (Or.inl ⟨by rfl, ?_⟩) ?_ ?_
          rotate_left
          · intro w'
            go_simp
            with_reducible rfl
          rotate_left
          · simp only [Act.put, List.setIfInBounds_toArray, List.set_cons_zero, List.set_cons_succ, i64_w, i32_w]
            rfl
          refine pure_ (i := 2) (N := some 27) (v := ?_) (a' := ?_) #[true, true, true, false, false, false, false, false, false, false, false, false, false, false, false, false, false, false] rfl rfl (any_of HT_.out (by kernel_rfl)) (fun _ _ _ h => h) (Or.inl ⟨by rfl, ?_⟩) ?_ ?_
          rotate_left
          · intro w'
            go_simp
            with_reducible rfl
          rotate_left
          · simp only [Act.put, List.setIfInBounds_toArray, List.set_cons_zero, List.set_cons_succ, i64_w, i32_w]
            rfl
          refine pure_ (i := 3) (N := some 28) (v := ?_) (a' := ?_) #[true, true, true, true, false, false, false, false, false, false, false, false, false, false, false, false, false, false] rfl rfl (any_of HT_.out (by kernel_rfl)) (fun _ _ _ h => h) (Or.inl ⟨by rfl, ?_⟩) ?_ ?_
          rotate_left
          · intro w'
            go_simp
            with_reducible rfl
          rotate_left
          · simp only [Act.put, List.setIfInBounds_toArray, List.set_cons_zero, List.set_cons_succ, i64_w, i32_w]
            rfl
          refine pure_ (i := 4) (N := some 29) (v := ?_) (a' := ?_) #[true, true, true, true, true, false, false, false, false, false, false, false, false, false, false, false, false, false] rfl rfl (any_of HT_.out (by kernel_rfl)) (fun _ _ _ h => h) (Or.inl ⟨by rfl, ?_⟩) ?_ ?_
          rotate_left
          · intro w'
            go_simp
            with_reducible rfl
          rotate_left
          · simp only [Act.put, List.setIfInBounds_toArray, List.set_cons_zero, List.set_cons_succ, i64_w, i32_w]
            rfl
          refine pure_ (i := 5) (N := some 30) (v := ?_) (a' := ?_) #[true, true, true, true, true, true, false, false, false, false, false, false, false, false, false, false, false, false] rfl rfl (any_of HT_.out (by kernel_rfl)) (fun _ _ _ h => h) (Or.inl ⟨by rfl, ?_⟩) ?_ ?_
          rotate_left
          · intro w'
            go_simp
            with_reducible rfl
          rotate_left
          · simp only [Act.put, List.setIfInBounds_toArray, List.set_cons_zero, List.set_cons_succ, i64_w, i32_w]
            rfl
          refine pure_ (i := 7) (N := some 32) (v := ?_) (a' := ?_) #[true, true, true, true, true, true, false, true, false, false, false, false, false, false, false, false, false, false] rfl rfl (any_of HT_.out (by kernel_rfl)) (fun _ _ _ h => h) (Or.inl ⟨by rfl, ?_⟩) ?_ ?_
          rotate_left
          · intro w'
            go_simp
            with_reducible rfl
          rotate_left
          · simp only [Act.put, List.setIfInBounds_toArray, List.set_cons_zero, List.set_cons_succ, i64_w, i32_w]
            rfl
          refine pure_ (i := 8) (N := some 33) (v := ?_) (a' := ?_) #[true, true, true, true, true, true, false, true, true, false, false, false, false, false, false, false, false, false] rfl rfl (any_of HT_.out (by kernel_rfl)) (fun _ _ _ h => h) (Or.inl ⟨by rfl, ?_⟩) ?_ ?_
          rotate_left
          · intro w'
            go_simp
            with_reducible rfl
          rotate_left
          · simp only [Act.put, List.setIfInBounds_toArray, List.set_cons_zero, List.set_cons_succ, i64_w, i32_w]
            rfl
          refine pure_ (i := 9) (N := some 34) (v := ?_) (a' := ?_) #[true, true, true, true, true, true, false, true, true, true, false, false, false, false, false, false, false, false] rfl rfl (any_of HT_.out (by kernel_rfl)) (fun _ _ _ h => h) (Or.inl ⟨by rfl, ?_⟩) ?_ ?_
          rotate_left
          · intro w'
            go_simp
            with_reducible rfl
          rotate_left
          · simp only [Act.put, List.setIfInBounds_toArray, List.set_cons_zero, List.set_cons_succ, i64_w, i32_w]
            rfl
          refine pure_ (i := 10) (N := some 35) (v := ?_) (a' := ?_) #[true, true, true, true, true, true, false, true, true, true, true, false, false, false, false, false, false, false] rfl rfl (any_of HT_.out (by kernel_rfl)) (fun _ _ _ h => h) (Or.inl ⟨by rfl, ?_⟩) ?_ ?_
          rotate_left
          · intro w'
            go_simp
            with_reducible rfl
          rotate_left
          · simp only [Act.put, List.setIfInBounds_toArray, List.set_cons_zero, List.set_cons_succ, i64_w, i32_w]
            rfl
          refine pure_ (i := 13) (N := some 38) (v := ?_) (a' := ?_) #[true, true, true, true, true, true, false, true, true, true, true, false, false, true, false, false, false, false] rfl rfl (any_of HT_.out (by kernel_rfl)) (fun _ _ _ h => h) (Or.inl ⟨by rfl, ?_⟩) ?_ ?_
          rotate_left
          · intro w'
            go_simp
            with_reducible rfl
          rotate_left
          · simp only [Act.put, List.setIfInBounds_toArray, List.set_cons_zero, List.set_cons_succ, i64_w, i32_w]
            rfl
          refine one_ (i := 6) (N := some 31) #[true, true, true, true, true, true, true, true, true, true, true, false, false, true, false, false, false, false] rfl rfl (one_of HT_.out (by kernel_rfl)) (by decide) (fun K hK => ?_)
          refine goes_ Tryd.func67 (by kernel_rfl) rfl #[.int .i64 r] (by rfl) rfl rfl (by (try simp only [List.map_toArray, List.map_cons, List.map_nil]); first | done | rfl | (simp only [List.length_drop, List.length_take]; rfl)) ?_
          refine (HTW.out _).mono ?_
          rintro e w3 ⟨A, c, rfl, hA, hb3⟩
          refine ⟨_, rfl, ?_⟩
          refine hK.out _ _ trivial (fun hHeld => ?_)
          clear hK K
          refine norm_ (a' := ?_) ?_ ?_
          rotate_left
          · show Act.put _ (some 31) _ = _
            simp only [Act.put, List.setIfInBounds_toArray, List.set_cons_zero, List.set_cons_succ, i64_w, i32_w]
            rfl
          refine one_ (i := 11) (N := some 36) #[true, true, true, true, true, true, true, true, true, true, true, true, false, true, false, false, false, false] rfl rfl (one_of HT_.out (by kernel_rfl)) (by decide) (fun K hK => ?_)
          refine goes_ Tryd.func57 (by kernel_rfl) rfl #[.string (str (l.take i))] (by rfl) rfl rfl (by (try simp only [List.map_toArray, List.map_cons, List.map_nil]); first | done | rfl | (simp only [List.length_drop, List.length_take]; rfl)) ?_
          refine (HTK.out _).mono ?_
          rintro e w' ⟨rfl, ⟨nd, rfl⟩⟩
          refine ⟨_, rfl, ?_⟩
          refine hK.out _ _ trivial (fun hHeld => ?_)
          clear hK K
          refine norm_ (a' := ?_) ?_ ?_
          rotate_left
          · show Act.put _ (some 36) _ = _
            simp only [Act.put, List.setIfInBounds_toArray, List.set_cons_zero, List.set_cons_succ, i64_w, i32_w]
            rfl
          refine pure_ (i := 12) (N := some 37) (v := ?_) (a' := ?_) #[true, true, true, true, true, true, true, true, true, true, true, true, true, true, false, false, false, false] rfl rfl (any_of HT_.out (by kernel_rfl)) (fun _ _ _ h => h) (Or.inl ⟨by rfl, ?_⟩) ?_ ?_
          rotate_left
          · intro w'
            go_simp
            with_reducible rfl
          rotate_left
          · simp only [Act.put, List.setIfInBounds_toArray, List.set_cons_zero, List.set_cons_succ, i64_w, i32_w]
            rfl
          refine pure_ (i := 14) (N := some 39) (v := ?_) (a' := ?_) #[true, true, true, true, true, true, true, true, true, true, true, true, true, true, true, false, false, false] rfl rfl (any_of HT_.out (by kernel_rfl)) (fun _ _ _ h => h) (Or.inl ⟨by rfl, ?_⟩) ?_ ?_
          rotate_left
          · intro w'
            go_simp
            with_reducible rfl
          rotate_left
          · simp only [Act.put, List.setIfInBounds_toArray, List.set_cons_zero, List.set_cons_succ, i64_w, i32_w]
            rfl
          refine one_ (i := 15) (N := some 40) #[true, true, true, true, true, true, true, true, true, true, true, true, true, true, true, true, false, false] rfl rfl (one_of HT_.out (by kernel_rfl)) (by decide) (fun K hK => ?_)
          refine goes_ Tryd.func66 (by kernel_rfl) rfl #[.slice A (W r).length c, .int .i64 (s - q - d)] (by rfl) rfl rfl (by (try simp only [List.map_toArray, List.map_cons, List.map_nil]); first | done | rfl | (simp only [List.length_drop, List.length_take]; rfl)) ?_
          refine (tkOf_any r (s - q - d) _ ⟨hA.out.1, Kd.C_drewN hA.out.2 _⟩).mono ?_
          rintro e w' ⟨rfl, ⟨nd2, rfl⟩⟩
          refine ⟨_, rfl, ?_⟩
          refine hK.out _ _ trivial (fun hHeld => ?_)
          clear hK K
          refine norm_ (a' := ?_) ?_ ?_
          rotate_left
          · show Act.put _ (some 40) _ = _
            simp only [Act.put, List.setIfInBounds_toArray, List.set_cons_zero, List.set_cons_succ, i64_w, i32_w]
            rfl
          refine pure_ (i := 16) (N := some 41) (v := ?_) (a' := ?_) #[true, true, true, true, true, true, true, true, true, true, true, true, true, true, true, true, true, false] rfl rfl (any_of HT_.out (by kernel_rfl)) (fun _ _ _ h => h) (Or.inl ⟨by rfl, ?_⟩) ?_ ?_
          rotate_left
          · intro w'
            go_simp
            with_reducible rfl
          rotate_left
          · simp only [Act.put, List.setIfInBounds_toArray, List.set_cons_zero, List.set_cons_succ, i64_w, i32_w]
            rfl
          refine pure_ (i := 17) (N := some 5) (v := ?_) (a' := ?_) #[true, true, true, true, true, true, true, true, true, true, true, true, true, true, true, true, true, true] rfl rfl (any_of HT_.out (by kernel_rfl)) (fun _ _ _ h => h) (Or.inl ⟨by rfl, ?_⟩) ?_ ?_
          rotate_left
          · intro w'
            go_simp
            with_reducible rfl
          rotate_left
          · simp only [Act.put, List.setIfInBounds_toArray, List.set_cons_zero, List.set_cons_succ, i64_w, i32_w]
            rfl
          refine done_ (done_of HT_.out (by kernel_rfl)) ?_
          have HB4 := Aside0.mk (pw_below_drewN (pw_below_drewN ((below_drew1 HB3.out).trans (hb3.out.mono (below_drew1 HB3.out).size)) nd) nd2)
          have HW4 : Aside0 (Walker (World.drewN (World.drewN w3 nd) nd2) w1.heap.size (str l) (i + 1)) := ⟨walker_below HW3.out (pw_below_drewN (pw_below_drewN ((below_drew1 (Below.refl _ wr)).trans hb3.out) nd) nd2) HW3.out.lt⟩
          rw [World.drewN_drewN] at HW4
          replace HB4 : Aside0 (Below w.heap.size w (World.drewN w3 (nd + nd2))) := ⟨by have := HB4.out; rwa [World.drewN_drewN] at this⟩
          have NB : Aside0 (wrap64 ((N s ((10 * p + d) * 10 ^ r) : Int) + C r (s - q - d)) = (N s ((10 * p + (d + 1)) * 10 ^ r) : Nat)) := ⟨by
            have nb := N_block s r (10 * p + d)
            have eq : q = ds p := by rw [HQ.out, ha.p1, EL.out, sumB_take n i (by rw [← EL.out]; omega)]
            rw [ds_step p d (by omega), show s - ((ds p + d : Nat) : Int) = s - q - d by rw [eq]; omega] at nb
            have e : n / 10 ^ r = 10 * p + D := by rw [← ha.n1, show l.length - (i + 1) = r by have := ha.r1; omega]
            have le : (10 * p + d + 1) * 10 ^ r ≤ n := Nat.le_trans (Nat.mul_le_mul_right _ (show 10 * p + d + 1 ≤ 10 * p + D by omega)) (by rw [← e]; exact Nat.div_mul_le_self n (10 ^ r))
            have b1 := N_le (s := s) n
            have b2 := N_mono (s := s) le
            rw [show 10 * p + (d + 1) = 10 * p + d + 1 by omega, nb]
            rw [nb] at b2
            rw [wi (by omega) (by omega), Int.natCast_add]⟩
          go_wp2
          go_roundg (D - d)
          case measure => omega
          case rel => exact ⟨d + 1, by omega, by omega, by go_num, by rw [NB.out], HW4, HB4⟩
        · go_wp2
          go_roundg (l.length - i)
          case measure => omega
          case rel =>
            obtain rfl : d = D := by omega
            exact ⟨i + 1, by omega, by omega, by rw [ha.n1, show l.length - (i + 1) = r by have := ha.r1; omega], HW3, HB3⟩
    · have hnx : ∀ ty, (Instr.next (.pointer (some ⟨w1.heap.size, 0, none⟩)) true ty).run Tryd.prog wr = _ := fun ty => next_none wr w1.heap.size (str l) i ty HW.out (by rw [str_size]; exact hi)
      have ei : i = l.length := by omega
      have VN : Aside0 (n / 10 ^ (l.length - i) * 10 ^ (l.length - i) = n) := ⟨by rw [ei, Nat.sub_self, Nat.pow_zero, Nat.mul_one, Nat.div_one]⟩
      rw [VN.out]
      have HDS := Aside0.mk (diSum_any n (by omega))
      have nl := N_le (s := s) n
      have e0 : Aside0 (N s (n + 1) = N s n + if (ds n : Int) = s then 1 else 0) := ⟨rfl⟩
      have w1' : wrap64 ((N s n : Int) + 1) = (N s n : Int) + 1 := wi (by omega) (by omega)
      have w2' : wrap64 ((N s n : Int) - 1) = (N s n : Int) - 1 := wi (by omega) (by omega)
      have w3' : wrap64 ((N s n : Int) + 1 - 1) = (N s n : Int) + 1 - 1 := wi (by omega) (by omega)
      clear ei i1 i2 hi
      by_cases c1 : (ds n : Int) = s <;> by_cases c2 : s = 0
      all_goals
        have hr := HRES.out
        rw [e0.out] at hr
        first | rw [if_pos c1] at hr | rw [if_neg c1] at hr
        first | rw [if_pos c2] at hr | rw [if_neg c2] at hr
        have d1 : ((ds n : Int) == s) = decide ((ds n : Int) = s) := rfl
        have d2 : (s == 0) = decide (s = 0) := rfl
        first | rw [decide_eq_true c1] at d1 | rw [decide_eq_false c1] at d1
        first | rw [decide_eq_true c2] at d2 | rw [decide_eq_false c2] at d2
        have HR := Aside0.mk hr
        clear hr HRES e0
        try subst c2
        go_wp2_with (go_at_call 37; refine (HDS.out _).mono ?_; rintro e w3 ⟨rfl, hb3⟩)
        go_ret
        refine ⟨?_, HB.out.trans (hb3.mono HB.out.size)⟩
        have hr := HR.out
        rw [hr]
        first | rfl | (congr 2; omega) | (show Ending.returned (.int .i64 (N 0 n : Int)) = _; congr 2; omega) | (rw [w1', w3']; congr 2; omega) | (rw [w2']; congr 2; omega) | (show Ending.returned (.int .i64 (wrap64 (wrap64 ((N 0 n : Int) + 1) - 1))) = _; rw [w1', w3']; congr 2; omega) | (show Ending.returned (.int .i64 (wrap64 ((N 0 n : Int) - 1))) = _; rw [w2']; congr 2; omega)

theorem diOfSum_any (n : Nat) (n1 : 1 ≤ n) (n2 : n ≤ 1000000000000) (s : Int) (s0 : 0 ≤ s) (s1 : s ≤ 9223372036854775807) (w : World) :
    Calls Tryd.prog 53 #[.int .i64 n, .int .i64 s] w fun e w' => e = .returned (.int .i64 ((N s (n + 1) : Int) - if s = 0 then 1 else 0)) ∧ Below w.heap.size w w' :=
  diOfSum_all n n2 s s0 s1 w
end Go.Proofs.YtkienapjmgjafaaDoor.HSums
