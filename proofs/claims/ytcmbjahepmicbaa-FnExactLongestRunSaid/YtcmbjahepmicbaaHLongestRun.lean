/-
  LongestRun: the program's first run is the reference's.
-/
import Derived.Test.YtcmbjahepmicbaaHRuns
import Derived.Test.YtcmbjahepmicbaaNum
import Derived.Test.YtcmbjahepmicbaaPFnExactLongestRunx
namespace Go.Proofs.Ytcmbjahepmicbaa.HLongestRun
open Go.RowKit Go.Proofs.YtcmbjahepmicbaaW.PrintWords Go.Proofs.Ytcmbjahepmicbaa.Num
set_option linter.unusedVariables false
set_option linter.unusedSimpArgs false

section
open Go.Proofs.Ytcmbjahepmicbaa.PFnExactCountRuns Go.Proofs.Ytcmbjahepmicbaa.HRuns
theorem upTo_eq {a : Int} (h0 : 0 ≤ a) (h1 : a ≤ 1000001) : impl_upTo.f a = some (tri a) := by
  have hb := mul_bound h0 (show 0 ≤ a + 1 by omega) h1 (show a + 1 ≤ 1000002 by omega)
  have ht := two_tri a
  unfold impl_upTo.f
  rw [wi (x := a + 1) (by omega) (by omega), wi (x := a * (a + 1)) (by omega) (by omega), td2 hb.1, wi (by omega) (by omega)]
  rfl
theorem within_eq (a b c : Int) : impl_within.f a b c = some (decide (b ≤ a ∧ a ≤ c)) := by
  unfold impl_within.f
  by_cases h : b ≤ a
  · rw [if_pos h]; congr 1; simp; omega
  · rw [if_neg h]; congr 1; simp; omega
theorem isRunSum_eq (a : Int) : impl_isRunSum.f a = some (decide (1 ≤ a ∧ a ≤ 1000000)) := by
  unfold impl_isRunSum.f; rw [within_eq]; rfl
end

section
open Go.Proofs.Ytcmbjahepmicbaa.HRuns
open Go.Proofs.Ytcmbjahepmicbaa.PFnExactLongestRun (spec_hoRuns.l0 spec_hoRuns.f)
theorem part_eq (m : Int) : m * (m - 1) / 2 = tri (m - 1) := by
  unfold tri
  rw [show m - 1 + 1 = m by omega, Int.mul_comm]

/-- what both look at for so many houses -/
theorem spec_round (k : Nat) (sum step : Int) (out : List (List Int)) (m : Int) (s0 : 1 ≤ sum) (s1 : sum ≤ 1000000) (t0 : 1 ≤ step) (t1 : step ≤ 2) (m0 : 2 ≤ m) (m1 : m ≤ 2000) (ol : out.length ≤ 3000) :
    spec_hoRuns.l0 (k + 1) sum step out m = (if tri m ≤ sum then (if sum - step * tri (m - 1) > 0 then (if (sum - step * tri (m - 1)) % m = 0 then spec_hoRuns.l0 k sum step ([(sum - step * tri (m - 1)) / m, (sum - step * tri (m - 1)) / m + step * (m - 1)] :: out) (m + 1) else spec_hoRuns.l0 k sum step out (m + 1)) else spec_hoRuns.l0 k sum step out (m + 1)) else some out) := by
  have a1 := tri_bound (n := m) (by omega) (by omega)
  have a2 := tri_nonneg (n := m - 1) (by omega)
  have a3 := tri_le (a := m - 1) (b := m) (by omega) (by omega)
  have tt := tri_le (a := m - 1) (b := 1999) (by omega) (by omega)
  have tv : tri 1999 = 1999000 := by decide
  have b1 := two_tri m
  have b2 : m * (m - 1) = 2 * tri (m - 1) := by
    have := two_tri (m - 1)
    rw [show m - 1 + 1 = m by omega] at this
    grind
  have st := mul_bound (show 0 ≤ step by omega) a2 t1 (show tri (m - 1) ≤ 1999000 by omega)
  have sm := mul_bound (show 0 ≤ step by omega) (show 0 ≤ m - 1 by omega) t1 (show m - 1 ≤ 1999 by omega)
  simp only [spec_hoRuns.l0]
  rw [wi (x := m + 1) (by omega) (by omega), wi (x := m * (m + 1)) (by omega) (by omega), td2 (by omega), show m * (m + 1) / 2 = tri m from rfl, wi (x := tri m) (by omega) (by omega), wi (x := m - 1) (by omega) (by omega), wi (x := m * (m - 1)) (by omega) (by omega), td2 (by omega), part_eq, wi (x := tri (m - 1)) (by omega) (by omega), wi (x := step * tri (m - 1)) (by omega) (by omega), wi (x := sum - step * tri (m - 1)) (by omega) (by omega), wi (x := step * (m - 1)) (by omega) (by omega)]
  by_cases c1 : tri m ≤ sum
  · rw [if_pos c1, if_pos c1]
    by_cases c2 : sum - step * tri (m - 1) > 0
    · have q1 : 0 ≤ (sum - step * tri (m - 1)) / m := Int.ediv_nonneg (by omega) (by omega)
      have q2 : (sum - step * tri (m - 1)) / m ≤ sum - step * tri (m - 1) := Int.ediv_le_self _ (by omega)
      rw [if_pos c2, if_pos c2, if_neg (by omega), tm (by omega), td (by omega), wi (x := (sum - step * tri (m - 1)) / m) (by omega) (by omega), wi (x := (sum - step * tri (m - 1)) / m + step * (m - 1)) (by omega) (by omega)]
      by_cases c3 : (sum - step * tri (m - 1)) % m = 0
      · rw [if_pos c3, if_pos c3]
        simp only [Option.bind_some, List.length_cons, List.length_nil]
        rw [if_pos (by omega)]; rfl
      · rw [if_neg c3, if_neg c3]
    · rw [if_neg c2, if_neg c2]
  · rw [if_neg c1, if_neg c1]

theorem impl_round (k : Nat) (sum step : Int) (out : List (List Int)) (m : Int) (s0 : 1 ≤ sum) (s1 : sum ≤ 1000000) (t0 : 1 ≤ step) (t1 : step ≤ 2) (m0 : 2 ≤ m) (m1 : m ≤ 2000) (ol : out.length ≤ 3000) :
    impl_runs.l0 (k + 1) sum step out m = (if m + step * tri (m - 1) ≤ sum then (if (sum - step * tri (m - 1)) % m = 0 then impl_runs.l0 k sum step (out ++ [[(sum - step * tri (m - 1)) / m, (sum - step * tri (m - 1)) / m + step * (m - 1)]]) (m + 1) else impl_runs.l0 k sum step out (m + 1)) else some out) := by
  have a2 := tri_nonneg (n := m - 1) (by omega)
  have tt := tri_le (a := m - 1) (b := 1999) (by omega) (by omega)
  have tv : tri 1999 = 1999000 := by decide
  have st := mul_bound (show 0 ≤ step by omega) a2 t1 (show tri (m - 1) ≤ 1999000 by omega)
  have sm := mul_bound (show 0 ≤ step by omega) (show 0 ≤ m - 1 by omega) t1 (show m - 1 ≤ 1999 by omega)
  simp only [impl_runs.l0]
  rw [wi (x := m - 1) (by omega) (by omega), upTo_eq (by omega) (by omega)]
  simp only [Option.bind_some]
  rw [wi (x := step * tri (m - 1)) (by omega) (by omega), wi (x := m + step * tri (m - 1)) (by omega) (by omega), wi (x := sum - step * tri (m - 1)) (by omega) (by omega), wi (x := step * (m - 1)) (by omega) (by omega), wi (x := m + 1) (by omega) (by omega)]
  by_cases c1 : m + step * tri (m - 1) ≤ sum
  · have q1 : 0 ≤ (sum - step * tri (m - 1)) / m := Int.ediv_nonneg (by omega) (by omega)
    have q2 : (sum - step * tri (m - 1)) / m ≤ sum - step * tri (m - 1) := Int.ediv_le_self _ (by omega)
    rw [if_pos c1, if_pos c1, if_neg (by omega), tm (by omega), td (by omega), wi (x := (sum - step * tri (m - 1)) / m) (by omega) (by omega), wi (x := (sum - step * tri (m - 1)) / m + step * (m - 1)) (by omega) (by omega), if_pos (show out.length < 5864062014805 by omega)]
  · rw [if_neg c1, if_neg c1]

/-- too many houses: the reference finds no more -/
theorem spec_rest (sum step : Int) (s0 : 1 ≤ sum) (s1 : sum ≤ 1000000) (t0 : 1 ≤ step) (t1 : step ≤ 2) (d : Nat) : ∀ (k : Nat) (out : List (List Int)) (m : Int), 2 ≤ m → m ≤ 2000 → 2000 - m = d → d < k → out.length ≤ 3000 → sum < m + step * tri (m - 1) →
    spec_hoRuns.l0 k sum step out m = some out := by
  have tv : tri 2000 = 2001000 := by decide
  induction d with
  | zero =>
    intro k out m m0 m1 hd hk ol c
    obtain ⟨k, rfl⟩ : ∃ j, k = j + 1 := ⟨k - 1, by omega⟩
    have : m = 2000 := by omega
    subst this
    rw [spec_round k sum step out 2000 s0 s1 t0 t1 m0 m1 ol, if_neg (by omega)]
  | succ d ih =>
    intro k out m m0 m1 hd hk ol c
    obtain ⟨k, rfl⟩ : ∃ j, k = j + 1 := ⟨k - 1, by omega⟩
    have next : sum < m + 1 + step * tri (m + 1 - 1) := by
      rw [show m + 1 - 1 = m by omega]
      have a3 := tri_le (a := m - 1) (b := m) (by omega) (by omega)
      have := Int.mul_le_mul_of_nonneg_left a3 (show 0 ≤ step by omega)
      omega
    have go := ih k out (m + 1) (by omega) (by omega) (by omega) (by omega) ol next
    rw [spec_round k sum step out m s0 s1 t0 t1 m0 m1 ol]
    by_cases c1 : tri m ≤ sum
    · rw [if_pos c1]
      by_cases c2 : sum - step * tri (m - 1) > 0
      · rw [if_pos c2, if_neg (by rw [Int.emod_eq_of_lt (by omega) (by omega)]; omega)]; exact go
      · rw [if_neg c2]; exact go
    · rw [if_neg c1]

theorem runs_same (sum step : Int) (s0 : 1 ≤ sum) (s1 : sum ≤ 1000000) (t0 : 1 ≤ step) (t1 : step ≤ 2) (d : Nat) : ∀ (k : Nat) (out : List (List Int)) (m : Int), 2 ≤ m → m ≤ 2000 → 2000 - m = d → d < k → (out.length : Int) ≤ m → (∀ x ∈ out, x.length = 2) →
    ∃ l, impl_runs.l0 k sum step out m = some l ∧ spec_hoRuns.l0 k sum step out.reverse m = some l.reverse ∧ l.length ≤ 2001 ∧ ∀ x ∈ l, x.length = 2 := by
  have tv : tri 1999 = 1999000 := by decide
  induction d with
  | zero =>
    intro k out m m0 m1 hd hk ol h2
    obtain ⟨k, rfl⟩ : ∃ j, k = j + 1 := ⟨k - 1, by omega⟩
    have : m = 2000 := by omega
    subst this
    have c : ¬ ((2000 : Int) + step * tri (2000 - 1) ≤ sum) := by
      have : 1 * tri 1999 ≤ step * tri 1999 := Int.mul_le_mul_of_nonneg_right t0 (by omega)
      rw [show (2000 : Int) - 1 = 1999 from rfl]; omega
    refine ⟨out, ?_, spec_rest sum step s0 s1 t0 t1 0 (k + 1) out.reverse 2000 m0 m1 (by omega) (by omega) (by rw [List.length_reverse]; omega) (by omega), by omega, h2⟩
    rw [impl_round k sum step out 2000 s0 s1 t0 t1 m0 m1 (by omega), if_neg c]
  | succ d ih =>
    intro k out m m0 m1 hd hk ol h2
    by_cases c1 : m + step * tri (m - 1) ≤ sum
    · obtain ⟨k, rfl⟩ : ∃ j, k = j + 1 := ⟨k - 1, by omega⟩
      have a2 := tri_nonneg (n := m - 1) (by omega)
      have ts := tri_succ (m - 1)
      rw [show m - 1 + 1 = m by omega] at ts
      have : 1 * tri (m - 1) ≤ step * tri (m - 1) := Int.mul_le_mul_of_nonneg_right t0 (by omega)
      rw [impl_round k sum step out m s0 s1 t0 t1 m0 m1 (by omega), spec_round k sum step out.reverse m s0 s1 t0 t1 m0 m1 (by rw [List.length_reverse]; omega), if_pos c1, if_pos (show tri m ≤ sum by omega), if_pos (show sum - step * tri (m - 1) > 0 by omega)]
      by_cases c3 : (sum - step * tri (m - 1)) % m = 0
      · rw [if_pos c3, if_pos c3]
        obtain ⟨l, e1, e2, e3, e4⟩ := ih k (out ++ [[(sum - step * tri (m - 1)) / m, (sum - step * tri (m - 1)) / m + step * (m - 1)]]) (m + 1) (by omega) (by omega) (by omega) (by omega) (by simp; omega) (fun x hx => by
          rcases List.mem_append.1 hx with hx | hx
          · exact h2 x hx
          · rw [List.mem_singleton.1 hx]; rfl)
        refine ⟨l, e1, ?_, e3, e4⟩
        rw [List.reverse_append] at e2
        exact e2
      · rw [if_neg c3, if_neg c3]
        exact ih k out (m + 1) (by omega) (by omega) (by omega) (by omega) (by omega) h2
    · refine ⟨out, ?_, spec_rest sum step s0 s1 t0 t1 (d + 1) k out.reverse m m0 m1 (by omega) (by omega) (by rw [List.length_reverse]; omega) (by omega), by omega, h2⟩
      obtain ⟨k, rfl⟩ : ∃ j, k = j + 1 := ⟨k - 1, by omega⟩
      rw [impl_round k sum step out m s0 s1 t0 t1 m0 m1 (by omega), if_neg c1]

/-- the program's runs, turned round, are the reference's -/
theorem runs_told (sum step : Int) (s0 : 1 ≤ sum) (s1 : sum ≤ 1000000) (t0 : 1 ≤ step) (t1 : step ≤ 2) :
    ∃ l, impl_runs.f 2000 sum step = some l ∧ spec_hoRuns.f 2000 sum step = some l.reverse ∧ l.length ≤ 2001 ∧ ∀ x ∈ l, x.length = 2 := by
  unfold impl_runs.f spec_hoRuns.f
  exact runs_same sum step s0 s1 t0 t1 1998 2000 [] 2 (by omega) (by omega) (by omega) (by omega) (by simp) (by simp)
end

section
open Go.Proofs.Ytcmbjahepmicbaa.HReverse
def Out (l : List (List Int)) (b : Bool) (w : World) (e : Ending) (w' : World) : Prop :=
  ∃ A c, e = .returned (.tuple #[.slice A l.length c, .bool b]) ∧ Aside0 (Rows2 w' w.heap.size (.slice A l.length c) l) ∧ Aside0 (Below w.heap.size w w')

def One (l : List (List Int)) (w : World) (e : Ending) (w' : World) : Prop :=
  ∃ A c, e = .returned (.slice A l.length c) ∧ Aside0 (Rows2 w' w.heap.size (.slice A l.length c) l) ∧ Aside0 (Below w.heap.size w w')
end

section
open Go.Proofs.Ytcmbjahepmicbaa.HReverse Go.Proofs.Ytcmbjahepmicbaa.HRuns Go.Proofs.Ytcmbjahepmicbaa.PFnExactLongestRun
theorem l1In_eq (a b c : Int) : spec_l1In.f a b c = some (decide (b ≤ a ∧ a ≤ c)) := by
  unfold spec_l1In.f
  by_cases h : a ≥ b
  · rw [if_pos h]; congr 1; simp; omega
  · rw [if_neg h]; congr 1; simp; omega
theorem hoAsked_eq (a : Int) : spec_hoAsked.f a = some (decide (1 ≤ a ∧ a ≤ 1000000)) := by
  unfold spec_hoAsked.f; rw [l1In_eq]; rfl

theorem one_of {sum step : Int} {l : List (List Int)} (h : impl_runs.f 2000 sum step = some l) (w : World) : Calls Try.prog 53 #[.int .i64 sum, .int .i64 step] w (One l.reverse w) :=
  (impl_runs.calls 2000 sum step l w h).mono fun e w' ⟨v, he, hS, hb⟩ => by
    obtain ⟨A, c, rfl⟩ := Kd.S_slice hS
    exact ⟨A, c, he, ⟨hS⟩, ⟨hb⟩⟩

theorem list_yes (sum : Int) (s0 : 1 ≤ sum) (s1 : sum ≤ 1000000) (r : List (List Int)) (hr : ∀ W, Calls Try.prog 53 #[.int .i64 sum, .int .i64 1] W (One r W)) (w : World) : Calls Try.prog 51 #[.int .i64 sum] w (Out r true w) := by
  have HI : Aside0 (Go.Proofs.Ytcmbjahepmicbaa.PFnExactCountRuns.impl_isRunSum.f sum = some true) := ⟨by rw [isRunSum_eq, decide_eq_true ⟨s0, s1⟩]⟩
  have HR := Aside0.mk hr
  clear hr
  go_enter Try.func51, Try.ntmps51
  go_wp2_with (first | (go_at_call 49; refine (Go.Proofs.Ytcmbjahepmicbaa.PFnExactCountRuns.impl_isRunSum.calls sum true _ HI.out).mono ?_; rintro e w' ⟨rfl, ⟨nd, rfl⟩⟩) | (go_at_call 53; refine (HR.out _).mono ?_; rintro e w1 ⟨A, c, rfl, h1, hb1⟩))
  go_ret2
  exact ⟨A, c, rfl, h1, ⟨(pw_below_drewN (Below.refl _ w) nd).trans hb1.out⟩⟩

theorem list_no (sum : Int) (h : ¬ (1 ≤ sum ∧ sum ≤ 1000000)) (w : World) : Calls Try.prog 51 #[.int .i64 sum] w (Out [] false w) := by
  have HI : Aside0 (Go.Proofs.Ytcmbjahepmicbaa.PFnExactCountRuns.impl_isRunSum.f sum = some false) := ⟨by rw [isRunSum_eq, decide_eq_false h]⟩
  clear h
  go_enter Try.func51, Try.ntmps51
  go_wp2_with (go_at_call 49; refine (Go.Proofs.Ytcmbjahepmicbaa.PFnExactCountRuns.impl_isRunSum.calls sum false _ HI.out).mono ?_; rintro e w' ⟨rfl, ⟨nd, rfl⟩⟩)
  go_ret2
  exact ⟨none, 0, rfl, ⟨Kd.S_nil _ _ _ _ _⟩, ⟨pw_below_drewN (Below.refl _ w) nd⟩⟩

theorem impl_none (a : Int) (b : Bool) (hl : ∀ W, Calls Try.prog 51 #[.int .i64 a] W (Out [] b W)) (w : World) : Calls Try.prog 38 #[.int .i64 a] w fun e w' => e = .returned (.tuple #[.int .i64 0, .int .i64 0, .bool false]) ∧ Below w.heap.size w w' := by
  have HL := Aside0.mk hl
  clear hl
  go_enter Try.func38, Try.ntmps38
  go_wp2_with (go_at_call 51; refine (HL.out _).mono ?_; rintro e w1 ⟨A, c, rfl, h1, hb1⟩)
  go_ret3
  exact ⟨rfl, hb1.out⟩

set_option maxHeartbeats 2000000 in
theorem impl_some (a x y : Int) (l : List (List Int)) (hl : ∀ W, Calls Try.prog 51 #[.int .i64 a] W (Out l true W)) (h0 : 0 < l.length) (hx : l[0]? = some [x, y]) (w : World) : Calls Try.prog 38 #[.int .i64 a] w fun e w' => e = .returned (.tuple #[.int .i64 x, .int .i64 y, .bool true]) ∧ Below w.heap.size w w' := by
  have HL := Aside0.mk hl
  have HX := Aside0.mk (show rd_L1 l 0 = [x, y] by unfold rd_L1; simp [List.getD_eq_getElem?_getD, hx])
  clear hl hx
  have z0 : ((l.length : Int) == 0) = false := beq_eq_false_iff_ne.mpr (by omega)
  go_enter Try.func38, Try.ntmps38
  go_wp2_with (go_at_call 51; refine (HL.out _).mono ?_; rintro e w1 ⟨A, c, rfl, h1, hb1⟩; obtain ⟨ad, B, d, e1, hx, hl1, hi⟩ := at_L1 (Kd.S_reads' h1.out).2.2 0 (by omega) (by omega); cases e1; rw [HX.out] at hx hl1 hi; obtain ⟨ad0, e2, hx0⟩ := Kd.at_int hi 0 (by omega) (by simp); cases e2; obtain ⟨ad1, e3, hx1⟩ := Kd.at_int hi 1 (by omega) (by simp); cases e3; (try rw [show ((0 : Int)).toNat = 0 from rfl] at hx); (try rw [Addr.add_zero'] at hx); (try rw [show ((0 : Int)).toNat = 0 from rfl] at hx0); (try rw [Addr.add_zero'] at hx0); (try simp only [show (1 : Int).toNat = 1 from rfl, Nat.reduceMul, Nat.reduceEqDiff, Go.Addr.add, ↓reduceIte] at hx1))
  have qi : (0 < l.length) = True := eq_true h0
  go_region
  go_wp2
  go_ret3
  exact ⟨rfl, hb1.out.drew⟩

theorem law_over (a x y : Int) (b : Bool) (hs : ∀ W, Calls Try.prog 37 #[.int .i64 a] W fun e w' => e = .returned (.tuple #[.int .i64 x, .int .i64 y, .bool b]) ∧ Below W.heap.size W w') (hi : ∀ W, Calls Try.prog 38 #[.int .i64 a] W fun e w' => e = .returned (.tuple #[.int .i64 x, .int .i64 y, .bool b]) ∧ Below W.heap.size W w') (w : World) :
    Calls Try.prog 14 #[.int .i64 a] w fun e w' => e = .returned (.bool true) ∧ Below w.heap.size w w' := by
  have HS := Aside0.mk hs
  have HI := Aside0.mk hi
  clear hs hi
  go_enter Try.func14, Try.ntmps14
  go_wp2_with (first | (go_at_call 37; refine (HS.out _).mono ?_; rintro e w1 ⟨rfl, hb1⟩) | (go_at_call 38; refine (HI.out _).mono ?_; rintro e w2 ⟨rfl, hb2⟩))
  go_ret
  exact ⟨rfl, hb1.trans (hb2.mono hb1.size)⟩

theorem walk (a : Int) (w : World) : Calls Try.prog 14 #[.int .i64 a] w fun e w' => e = .returned (.bool true) ∧ Below w.heap.size w w' := by
  by_cases h : 1 ≤ a ∧ a ≤ 1000000
  · obtain ⟨l, ei, es, ll, l2⟩ := runs_told a 1 h.1 h.2 (by omega) (by omega)
    have ask : spec_hoAsked.f a = some true := by rw [hoAsked_eq, decide_eq_true h]
    obtain ⟨r, hr⟩ : ∃ r, r = l.reverse := ⟨_, rfl⟩
    rw [← hr] at es
    have r2 : ∀ x ∈ r, x.length = 2 := fun x hx => l2 x (List.mem_reverse.1 (hr ▸ hx))
    have hone : ∀ W, Calls Try.prog 51 #[.int .i64 a] W (Out r true W) := fun W => list_yes a h.1 h.2 r (fun W => hr ▸ one_of ei W) W
    clear hr l2
    cases r with
    | nil =>
      have e : spec_LongestRun.f 2000 a = some (0, 0, false) := by
        unfold spec_LongestRun.f
        rw [ask]
        simp only [Option.bind_some, if_pos, es]; rfl
      exact law_over a 0 0 false (fun W => spec_LongestRun.calls 2000 a 0 0 false W e) (fun W => impl_none a true hone W) w
    | cons p q =>
      obtain ⟨x, y, rfl⟩ : ∃ x y, p = [x, y] := by
        have := r2 p (List.mem_cons_self ..)
        match p, this with
        | [x, y], _ => exact ⟨x, y, rfl⟩
      have e : spec_LongestRun.f 2000 a = some (x, y, true) := by
        unfold spec_LongestRun.f
        rw [ask]
        simp only [Option.bind_some, if_pos, es]
        rw [if_neg (by simp only [List.length_cons]; omega), if_pos (by simp only [List.length_cons]; omega)]
        rfl
      exact law_over a x y true (fun W => spec_LongestRun.calls 2000 a x y true W e) (fun W => impl_some a x y _ hone (by simp) rfl W) w
  · have e : spec_LongestRun.f 0 a = some (0, 0, false) := by
      unfold spec_LongestRun.f
      rw [hoAsked_eq]
      simp only [Option.bind_some, decide_eq_true_eq]
      rw [if_neg h]
    exact law_over a 0 0 false (fun W => spec_LongestRun.calls 0 a 0 0 false W e) (fun W => impl_none a false (fun W => list_no a h W) W) w
end
end Go.Proofs.Ytcmbjahepmicbaa.HLongestRun
