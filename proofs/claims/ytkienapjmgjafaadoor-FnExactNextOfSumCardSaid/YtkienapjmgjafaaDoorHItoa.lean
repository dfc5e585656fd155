/-
  The numeral of a number, its digits' sum and product: what both sides' functions tell.
-/
import Derived.Test.YtkienapjmgjafaaDoorHDiOfSum
import Derived.Test.YtkienapjmgjafaaDoorShelf
import Derived.Lib.SmallJoins
namespace Go.Proofs.YtkienapjmgjafaaDoor.HSums
open Go.RowKit Go.Proofs.YtkienapjmgjafaaDoorW.PrintWords Go.Proofs.YtkienapjmgjafaaDoorW.PrintLast Go.Proofs.YtkienapjmgjafaaDoorW.PrintMore Go.Proofs.YtkienapjmgjafaaDoor.PNumberOfSum Go.Proofs.YtkienapjmgjafaaDoor.PdiSum Go.Proofs.YtkienapjmgjafaaDoor.PtkOf Go.Proofs.YtkienapjmgjafaaDoor.PtkWays Go.Proofs.YtkienapjmgjafaaDoor.Pl1In Go.Proofs.YtkienapjmgjafaaDoor.PsumOf
open Go.Lib (decDigits)
set_option linter.unusedVariables false
set_option linter.unusedSimpArgs false

/-- the library's table of powers of ten holds what its initialiser lays -/
abbrev TI (w : World) : Prop := Lib.TabIs Tryd.prog w "internal/strconv.uint64pow10" .u64 Lib.pow10Tab
theorem gTab : Tryd.prog.globalNamed "internal/strconv.uint64pow10" = some 1 := by kernel_rfl
theorem ti_stays {w w' : World} (h : TI w) (hb : Below w.heap.size w w') : TI w' := Go.Joins.tab_stays gTab h hb (Nat.le_refl _)

theorem itoa_any (n : Nat) (hn : n ≤ 9223372036854775807) (w : World) (hT : TI w) : Calls Tryd.prog 48 #[.int .i64 n] w fun e w' => e = .returned (.string (str (decDigits n))) ∧ Below w.heap.size w w' := by
  refine (Tryd.strconv_Itoa n (by omega) (by omega) w hT).mono ?_
  rintro e w' ⟨rfl, k, os, rfl⟩
  exact ⟨by rw [Lib.itoa_nonneg], ⟨rfl, rfl, rfl, by simp [Go.Sort.grow], fun i hi => by simp [Go.Sort.grow, Array.getElem?_append, hi]⟩⟩

theorem itoa_in (n : Nat) (hn : n ≤ 9223372036854775807) (w : World) (hT : TI w) : Aside0 (∀ W, Below w.heap.size w W → Calls Tryd.prog 48 #[.int .i64 n] W fun e w' => e = .returned (.string (str (decDigits n))) ∧ Below W.heap.size W w') :=
  ⟨fun W hb => itoa_any n hn W (ti_stays hT hb)⟩

/-! ### sums -/
theorem sumOf_l0 (l : List UInt8) (hl : D10 l) (h1 : l.length ≤ 1000) : ∀ (r i : Nat) (c : Int) (k : Nat), i + r = l.length → r < k → 0 ≤ c → c ≤ 9 * i → impl_sumOf.l0 k (str l) c l.length i = some (c + sumB (l.drop i)) := by
  intro r
  induction r with
  | zero =>
    intro i c k hi hk c0 c1
    obtain ⟨k, rfl⟩ : ∃ j, k = j + 1 := ⟨k - 1, by omega⟩
    rw [impl_sumOf.l0, if_neg (by omega), List.drop_eq_nil_of_le (by omega), sumB, Int.add_zero]
  | succ r ih =>
    intro i c k hi hk c0 c1
    obtain ⟨k, rfl⟩ : ∃ j, k = j + 1 := ⟨k - 1, by omega⟩
    have hlt : i < l.length := by omega
    have hb := hl l[i] (List.getElem_mem hlt)
    rw [impl_sumOf.l0, if_pos (by omega), if_pos (by omega), if_pos (by rw [str_size]; omega), bt_str l i hlt, Int.emod_eq_of_lt (by omega) (by omega), wi (by omega) (by omega), wi (x := (i : Int) + 1) (by omega) (by omega), show (i : Int) + 1 = ((i + 1 : Nat) : Int) by omega, ih (i + 1) _ k (by omega) (by omega) (by omega) (by omega), List.drop_eq_getElem_cons hlt, sumB]
    congr 1; omega

theorem sumOf_eq (l : List UInt8) (hl : D10 l) (h1 : l.length ≤ 1000) (k : Nat) (hk : l.length < k) : impl_sumOf.f k (str l) = some (sumB l) := by
  have := sumOf_l0 l hl h1 l.length 0 0 k (by omega) hk (by omega) (by omega)
  rw [List.drop_zero, Int.zero_add] at this
  unfold impl_sumOf.f
  rw [str_size]
  exact this

theorem sumOf_any (l : List UInt8) (hl : D10 l) (h1 : l.length ≤ 1000) (w : World) : Calls Tryd.prog 58 #[.string (str l)] w fun e w' => e = .returned (.int .i64 (sumB l)) ∧ Drawn0 w w' :=
  impl_sumOf.calls _ _ _ w (sumOf_eq l hl h1 (l.length + 1) (by omega))

theorem digitSum_any (n : Nat) (hn : n ≤ 9223372036854775807) (w : World) (hT : TI w) : Calls Tryd.prog 38 #[.int .i64 n] w fun e w' => e = .returned (.int .i64 (ds n)) ∧ Below w.heap.size w w' := by
  have HI := itoa_in n hn w hT
  have lim : (decDigits n).length ≤ 20 := dd_len 20 (by omega) (by omega)
  have HS : Aside0 _ := ⟨sumOf_any (decDigits n) (dd_d10 n) (by omega)⟩
  rw [sumB_dd] at HS
  go_enter Tryd.func38, Tryd.ntmps38
  go_wp2_with (first | (go_at_call 48; refine (HI.out _ (Below.refl _ _)).mono ?_; rintro e w1 ⟨rfl, hb1⟩) | (go_at_call 58; refine (HS.out _).mono ?_; rintro e w2 ⟨rfl, ⟨nd, rfl⟩⟩))
  go_ret
  exact ⟨rfl, pw_below_drewN hb1 nd⟩

/-! ### products -/
def prodB : List UInt8 → Int
  | [] => 1
  | b :: l => ((b.toNat : Int) - 48) * prodB l
/-- the product of a number's digits -/
def dp (n : Nat) : Nat := if n < 10 then n else dp (n / 10) * (n % 10)
termination_by n
decreasing_by omega

theorem prodB_append (a b : List UInt8) : prodB (a ++ b) = prodB a * prodB b := by
  induction a with
  | nil => simp [prodB]
  | cons x a ih => rw [List.cons_append, prodB, prodB, ih]; grind

theorem prodB_dd (n : Nat) : prodB (decDigits n) = dp n := by
  induction n using Nat.strongRecOn with
  | _ n ih =>
    by_cases h : n < 10
    · rw [dd_small h, dp, if_pos h, prodB, prodB, digit_byte h]; omega
    · have e : dp n = dp (n / 10) * (n % 10) := by rw [dp, if_neg h]
      rw [dd_more h, prodB_append, ih (n / 10) (by omega), e, prodB, prodB, digit_byte (by omega), Int.mul_one]
      push_cast; congr 1; omega

theorem prodB_range {l : List UInt8} (h : D10 l) : 0 ≤ prodB l ∧ prodB l ≤ 9 ^ l.length := by
  induction l with
  | nil => simp [prodB]
  | cons b l ih =>
    have h1 := h b (List.mem_cons_self ..)
    have h2 := ih (fun x hx => h x (List.mem_cons_of_mem _ hx))
    rw [prodB, List.length_cons]
    refine ⟨Int.mul_nonneg (by omega) h2.1, ?_⟩
    have : ((b.toNat : Int) - 48) * prodB l ≤ 9 * 9 ^ l.length := Int.mul_le_mul (by omega) h2.2 h2.1 (by omega)
    rw [Int.pow_succ]; omega

theorem prodB_take_succ {l : List UInt8} {i : Nat} (h : i < l.length) : prodB (l.take (i + 1)) = prodB (l.take i) * ((l[i].toNat : Int) - 48) := by
  rw [List.take_succ_eq_append_getElem h, prodB_append, prodB, prodB]; grind

theorem prodB_take_range {l : List UInt8} (h : D10 l) (h13 : l.length ≤ 13) (i : Nat) : 0 ≤ prodB (l.take i) ∧ prodB (l.take i) ≤ 2541865828329 := by
  have h1 := prodB_range (l := l.take i) (fun b hb => h b (List.mem_of_mem_take hb))
  have h2 : (9 : Int) ^ (l.take i).length ≤ 9 ^ 13 := by
    have := Nat.pow_le_pow_right (n := 9) (by omega) (show (l.take i).length ≤ 13 by rw [List.length_take]; omega)
    exact_mod_cast this
  have : (9 : Int) ^ 13 = 2541865828329 := by decide
  omega

theorem bytesOf_get (l : List UInt8) (i : Nat) (h : i < l.length) : (bytesOf (str l))[i]? = some (l[i].toNat : Int) := by
  simp [bytesOf, h]
end Go.Proofs.YtkienapjmgjafaaDoor.HSums
