/-
  RunsOnSide: the program's runs with a sum are just the reference's, in the same order.
-/
import Derived.Test.YtmcgkjhfghgdlaaHMarks
import Derived.Test.YtmcgkjhfghgdlaaHRuns
import Derived.Test.YtmcgkjhfghgdlaaPFnExactRunsOnSidex
namespace Go.Proofs.Ytmcgkjhfghgdlaa.HRunsOnSide
open Go.RowKit Go.Proofs.YtmcgkjhfghgdlaaW.PrintWords Go.Proofs.Ytmcgkjhfghgdlaa.Num
set_option linter.unusedVariables false
set_option linter.unusedSimpArgs false

section
open Go.Proofs.Ytmcgkjhfghgdlaa.PFnExactRunsWithSum Go.Proofs.Ytmcgkjhfghgdlaa.HRuns
theorem upTo_eq {a : Int} (h0 : 0 ≤ a) (h1 : a ≤ 1000001) : impl_upTo.f a = some (tri a) := by
  have hb := mul_bound h0 (show 0 ≤ a + 1 by omega) h1 (show a + 1 ≤ 1000002 by omega)
  have ht := two_tri a
  unfold impl_upTo.f
  rw [wi (x := a + 1) (by omega) (by omega), wi (x := a * (a + 1)) (by omega) (by omega), td2 hb.1, wi (by omega) (by omega)]
  rfl
theorem within_eq (a b c : Int) : impl_within.f a b c = some (decide (b ≤ a ∧ a ≤ c)) := by
  unfold impl_within.f
  by_cases h : b ≤ a
  · rw [if_pos h]; congr 1; simp; omega
  · rw [if_neg h]; congr 1; simp; omega
theorem isRunSum_eq (a : Int) : impl_isRunSum.f a = some (decide (1 ≤ a ∧ a ≤ 1000000)) := by
  unfold impl_isRunSum.f; rw [within_eq]; rfl
end

section
open Go.Proofs.Ytmcgkjhfghgdlaa.HRuns
open Go.Proofs.Ytmcgkjhfghgdlaa.PFnExactRunsOnSide (spec_hoRuns.l0 spec_hoRuns.f)
theorem part_eq (m : Int) : m * (m - 1) / 2 = tri (m - 1) := by
  unfold tri
  rw [show m - 1 + 1 = m by omega, Int.mul_comm]

/-- what both look at for so many houses -/
theorem spec_round (k : Nat) (sum step : Int) (out : List (List Int)) (m : Int) (s0 : 1 ≤ sum) (s1 : sum ≤ 1000000) (t0 : 1 ≤ step) (t1 : step ≤ 2) (m0 : 2 ≤ m) (m1 : m ≤ 2000) (ol : out.length ≤ 3000) :
    spec_hoRuns.l0 (k + 1) sum step out m = (if tri m ≤ sum then (if sum - step * tri (m - 1) > 0 then (if (sum - step * tri (m - 1)) % m = 0 then spec_hoRuns.l0 k sum step ([(sum - step * tri (m - 1)) / m, (sum - step * tri (m - 1)) / m + step * (m - 1)] :: out) (m + 1) else spec_hoRuns.l0 k sum step out (m + 1)) else spec_hoRuns.l0 k sum step out (m + 1)) else some out) := by
  have a1 := tri_bound (n := m) (by omega) (by omega)
  have a2 := tri_nonneg (n := m - 1) (by omega)
  have a3 := tri_le (a := m - 1) (b := m) (by omega) (by omega)
  have tt := tri_le (a := m - 1) (b := 1999) (by omega) (by omega)
  have tv : tri 1999 = 1999000 := by decide
  have b1 := two_tri m
  have b2 : m * (m - 1) = 2 * tri (m - 1) := by
    have := two_tri (m - 1)
    rw [show m - 1 + 1 = m by omega] at this
    grind
  have st := mul_bound (show 0 ≤ step by omega) a2 t1 (show tri (m - 1) ≤ 1999000 by omega)
  have sm := mul_bound (show 0 ≤ step by omega) (show 0 ≤ m - 1 by omega) t1 (show m - 1 ≤ 1999 by omega)
  simp only [spec_hoRuns.l0]
  rw [wi (x := m + 1) (by omega) (by omega), wi (x := m * (m + 1)) (by omega) (by omega), td2 (by omega), show m * (m + 1) / 2 = tri m from rfl, wi (x := tri m) (by omega) (by omega), wi (x := m - 1) (by omega) (by omega), wi (x := m * (m - 1)) (by omega) (by omega), td2 (by omega), part_eq, wi (x := tri (m - 1)) (by omega) (by omega), wi (x := step * tri (m - 1)) (by omega) (by omega), wi (x := sum - step * tri (m - 1)) (by omega) (by omega), wi (x := step * (m - 1)) (by omega) (by omega)]
  by_cases c1 : tri m ≤ sum
  · rw [if_pos c1, if_pos c1]
    by_cases c2 : sum - step * tri (m - 1) > 0
    · have q1 : 0 ≤ (sum - step * tri (m - 1)) / m := Int.ediv_nonneg (by omega) (by omega)
      have q2 : (sum - step * tri (m - 1)) / m ≤ sum - step * tri (m - 1) := Int.ediv_le_self _ (by omega)
      rw [if_pos c2, if_pos c2, if_neg (by omega), tm (by omega), td (by omega), wi (x := (sum - step * tri (m - 1)) / m) (by omega) (by omega), wi (x := (sum - step * tri (m - 1)) / m + step * (m - 1)) (by omega) (by omega)]
      by_cases c3 : (sum - step * tri (m - 1)) % m = 0
      · rw [if_pos c3, if_pos c3]
        simp only [Option.bind_some, List.length_cons, List.length_nil]
        rw [if_pos (by omega)]; rfl
      · rw [if_neg c3, if_neg c3]
    · rw [if_neg c2, if_neg c2]
  · rw [if_neg c1, if_neg c1]

theorem impl_round (k : Nat) (sum step : Int) (out : List (List Int)) (m : Int) (s0 : 1 ≤ sum) (s1 : sum ≤ 1000000) (t0 : 1 ≤ step) (t1 : step ≤ 2) (m0 : 2 ≤ m) (m1 : m ≤ 2000) (ol : out.length ≤ 3000) :
    impl_runs.l0 (k + 1) sum step out m = (if m + step * tri (m - 1) ≤ sum then (if (sum - step * tri (m - 1)) % m = 0 then impl_runs.l0 k sum step (out ++ [[(sum - step * tri (m - 1)) / m, (sum - step * tri (m - 1)) / m + step * (m - 1)]]) (m + 1) else impl_runs.l0 k sum step out (m + 1)) else some out) := by
  have a2 := tri_nonneg (n := m - 1) (by omega)
  have tt := tri_le (a := m - 1) (b := 1999) (by omega) (by omega)
  have tv : tri 1999 = 1999000 := by decide
  have st := mul_bound (show 0 ≤ step by omega) a2 t1 (show tri (m - 1) ≤ 1999000 by omega)
  have sm := mul_bound (show 0 ≤ step by omega) (show 0 ≤ m - 1 by omega) t1 (show m - 1 ≤ 1999 by omega)
  simp only [impl_runs.l0]
  rw [wi (x := m - 1) (by omega) (by omega), upTo_eq (by omega) (by omega)]
  simp only [Option.bind_some]
  rw [wi (x := step * tri (m - 1)) (by omega) (by omega), wi (x := m + step * tri (m - 1)) (by omega) (by omega), wi (x := sum - step * tri (m - 1)) (by omega) (by omega), wi (x := step * (m - 1)) (by omega) (by omega), wi (x := m + 1) (by omega) (by omega)]
  by_cases c1 : m + step * tri (m - 1) ≤ sum
  · have q1 : 0 ≤ (sum - step * tri (m - 1)) / m := Int.ediv_nonneg (by omega) (by omega)
    have q2 : (sum - step * tri (m - 1)) / m ≤ sum - step * tri (m - 1) := Int.ediv_le_self _ (by omega)
    rw [if_pos c1, if_pos c1, if_neg (by omega), tm (by omega), td (by omega), wi (x := (sum - step * tri (m - 1)) / m) (by omega) (by omega), wi (x := (sum - step * tri (m - 1)) / m + step * (m - 1)) (by omega) (by omega), if_pos (show out.length < 5864062014805 by omega)]
  · rw [if_neg c1, if_neg c1]

/-- too many houses: the reference finds no more -/
theorem spec_rest (sum step : Int) (s0 : 1 ≤ sum) (s1 : sum ≤ 1000000) (t0 : 1 ≤ step) (t1 : step ≤ 2) (d : Nat) : ∀ (k : Nat) (out : List (List Int)) (m : Int), 2 ≤ m → m ≤ 2000 → 2000 - m = d → d < k → out.length ≤ 3000 → sum < m + step * tri (m - 1) →
    spec_hoRuns.l0 k sum step out m = some out := by
  have tv : tri 2000 = 2001000 := by decide
  induction d with
  | zero =>
    intro k out m m0 m1 hd hk ol c
    obtain ⟨k, rfl⟩ : ∃ j, k = j + 1 := ⟨k - 1, by omega⟩
    have : m = 2000 := by omega
    subst this
    rw [spec_round k sum step out 2000 s0 s1 t0 t1 m0 m1 ol, if_neg (by omega)]
  | succ d ih =>
    intro k out m m0 m1 hd hk ol c
    obtain ⟨k, rfl⟩ : ∃ j, k = j + 1 := ⟨k - 1, by omega⟩
    have next : sum < m + 1 + step * tri (m + 1 - 1) := by
      rw [show m + 1 - 1 = m by omega]
      have a3 := tri_le (a := m - 1) (b := m) (by omega) (by omega)
      have := Int.mul_le_mul_of_nonneg_left a3 (show 0 ≤ step by omega)
      omega
    have go := ih k out (m + 1) (by omega) (by omega) (by omega) (by omega) ol next
    rw [spec_round k sum step out m s0 s1 t0 t1 m0 m1 ol]
    by_cases c1 : tri m ≤ sum
    · rw [if_pos c1]
      by_cases c2 : sum - step * tri (m - 1) > 0
      · rw [if_pos c2, if_neg (by rw [Int.emod_eq_of_lt (by omega) (by omega)]; omega)]; exact go
      · rw [if_neg c2]; exact go
    · rw [if_neg c1]

theorem runs_same (sum step : Int) (s0 : 1 ≤ sum) (s1 : sum ≤ 1000000) (t0 : 1 ≤ step) (t1 : step ≤ 2) (d : Nat) : ∀ (k : Nat) (out : List (List Int)) (m : Int), 2 ≤ m → m ≤ 2000 → 2000 - m = d → d < k → (out.length : Int) ≤ m → (∀ x ∈ out, x.length = 2) →
    ∃ l, impl_runs.l0 k sum step out m = some l ∧ spec_hoRuns.l0 k sum step out.reverse m = some l.reverse ∧ l.length ≤ 2001 ∧ ∀ x ∈ l, x.length = 2 := by
  have tv : tri 1999 = 1999000 := by decide
  induction d with
  | zero =>
    intro k out m m0 m1 hd hk ol h2
    obtain ⟨k, rfl⟩ : ∃ j, k = j + 1 := ⟨k - 1, by omega⟩
    have : m = 2000 := by omega
    subst this
    have c : ¬ ((2000 : Int) + step * tri (2000 - 1) ≤ sum) := by
      have : 1 * tri 1999 ≤ step * tri 1999 := Int.mul_le_mul_of_nonneg_right t0 (by omega)
      rw [show (2000 : Int) - 1 = 1999 from rfl]; omega
    refine ⟨out, ?_, spec_rest sum step s0 s1 t0 t1 0 (k + 1) out.reverse 2000 m0 m1 (by omega) (by omega) (by rw [List.length_reverse]; omega) (by omega), by omega, h2⟩
    rw [impl_round k sum step out 2000 s0 s1 t0 t1 m0 m1 (by omega), if_neg c]
  | succ d ih =>
    intro k out m m0 m1 hd hk ol h2
    by_cases c1 : m + step * tri (m - 1) ≤ sum
    · obtain ⟨k, rfl⟩ : ∃ j, k = j + 1 := ⟨k - 1, by omega⟩
      have a2 := tri_nonneg (n := m - 1) (by omega)
      have ts := tri_succ (m - 1)
      rw [show m - 1 + 1 = m by omega] at ts
      have : 1 * tri (m - 1) ≤ step * tri (m - 1) := Int.mul_le_mul_of_nonneg_right t0 (by omega)
      rw [impl_round k sum step out m s0 s1 t0 t1 m0 m1 (by omega), spec_round k sum step out.reverse m s0 s1 t0 t1 m0 m1 (by rw [List.length_reverse]; omega), if_pos c1, if_pos (show tri m ≤ sum by omega), if_pos (show sum - step * tri (m - 1) > 0 by omega)]
      by_cases c3 : (sum - step * tri (m - 1)) % m = 0
      · rw [if_pos c3, if_pos c3]
        obtain ⟨l, e1, e2, e3, e4⟩ := ih k (out ++ [[(sum - step * tri (m - 1)) / m, (sum - step * tri (m - 1)) / m + step * (m - 1)]]) (m + 1) (by omega) (by omega) (by omega) (by omega) (by simp; omega) (fun x hx => by
          rcases List.mem_append.1 hx with hx | hx
          · exact h2 x hx
          · rw [List.mem_singleton.1 hx]; rfl)
        refine ⟨l, e1, ?_, e3, e4⟩
        rw [List.reverse_append] at e2
        exact e2
      · rw [if_neg c3, if_neg c3]
        exact ih k out (m + 1) (by omega) (by omega) (by omega) (by omega) (by omega) h2
    · refine ⟨out, ?_, spec_rest sum step s0 s1 t0 t1 (d + 1) k out.reverse m m0 m1 (by omega) (by omega) (by rw [List.length_reverse]; omega) (by omega), by omega, h2⟩
      obtain ⟨k, rfl⟩ : ∃ j, k = j + 1 := ⟨k - 1, by omega⟩
      rw [impl_round k sum step out m s0 s1 t0 t1 m0 m1 (by omega), if_neg c1]

/-- the program's runs, turned round, are the reference's -/
theorem runs_told (sum step : Int) (s0 : 1 ≤ sum) (s1 : sum ≤ 1000000) (t0 : 1 ≤ step) (t1 : step ≤ 2) :
    ∃ l, impl_runs.f 2000 sum step = some l ∧ spec_hoRuns.f 2000 sum step = some l.reverse ∧ l.length ≤ 2001 ∧ ∀ x ∈ l, x.length = 2 := by
  unfold impl_runs.f spec_hoRuns.f
  exact runs_same sum step s0 s1 t0 t1 1998 2000 [] 2 (by omega) (by omega) (by omega) (by omega) (by simp) (by simp)
end

section
open Go.Proofs.Ytmcgkjhfghgdlaa.HMarks Go.Proofs.Ytmcgkjhfghgdlaa.PFnExactBalancedStreets
/-- a list of lists in memory that is read -/
abbrev Read2 (w : World) (A : Option Addr) (n c : Nat) (xs : List (List Int)) : Prop := n = xs.length ∧ n ≤ c ∧ Kd.C (Kd.slice 3 (Kd.int .i64)) w A n xs

def OutC (l : List (List Int)) (b : Bool) (w : World) (e : Ending) (w' : World) : Prop :=
  ∃ A c, e = .returned (.tuple #[.slice A l.length c, .bool b]) ∧ Aside0 (Read2 w' A l.length c l) ∧ Aside0 (Below w.heap.size w w')

theorem outC_of {l : List (List Int)} {b : Bool} {w : World} {f : Nat} {args : Array Value} {ok : World → Nat → Prop}
    (h : Calls Try.prog f args w fun e w' => ∃ v : Value, e = .returned (.tuple #[v, .bool b]) ∧ Kd.N (Kd.slice 3 (Kd.int .i64)) 25 w' w.heap.size (ok w) v l ∧ Below w.heap.size w w') : Calls Try.prog f args w (OutC l b w) :=
  h.mono fun e w' ⟨v, he, hS, hb⟩ => by
    obtain ⟨A, c, rfl⟩ := Kd.N_slice hS
    exact ⟨A, c, he, ⟨Kd.N_reads' hS⟩, ⟨hb⟩⟩

theorem equalC_any {l : List (List Int)} (hl : l.length ≤ 1000000) (h2 : ∀ x ∈ l, x.length = 2) {A0 A1 : Option Addr} {c0 c1 b0 : Nat} (w : World) (h0 : Aside0 (Rows2 w b0 (.slice A0 l.length c0) l)) (h1 : Aside0 (Read2 w A1 l.length c1 l)) :
    Calls Try.prog 21 #[.slice A0 l.length c0, .slice A1 l.length c1] w fun e w' => e = .returned (.bool true) ∧ Drawn0 w w' :=
  laws_eqIntSS.calls 2000000 A0 c0 l A1 c1 l true w (Kd.S_reads' h0.out).2.2 (Kd.S_reads' h0.out).2.1 h1.out.2.2 h1.out.2.1 (eqIntSS_self l hl h2)

set_option maxHeartbeats 4000000 in
/-- the law's own walk, over what both functions tell -/
theorem law_over (a : Int) (l : List (List Int)) (b : Bool) (hl : l.length ≤ 1000000) (h2 : ∀ x ∈ l, x.length = 2) (hs : ∀ W, Calls Try.prog 26 #[.int .i64 a] W (OutC l b W)) (hi : ∀ W, Calls Try.prog 27 #[.int .i64 a] W (Out l b W)) (w : World) :
    Calls Try.prog 8 #[.int .i64 a] w fun e w' => e = .returned (.bool true) ∧ Below w.heap.size w w' := by
  obtain ⟨mf, ys, mf1, hy, hm, hh⟩ := marks_told l hl h2
  have HS := Aside0.mk hs
  have HI := Aside0.mk hi
  have HM := Aside0.mk hm
  have HH := Aside0.mk hh
  have H2 := Aside0.mk h2
  have HL := Aside0.mk hl
  clear hs hi hm hh h2 hl hy
  go_enter Try.func8, Try.ntmps8
  go_wp2_with fail
  refine (HS.out _).mono ?_
  rintro e w1 ⟨A0, c0, rfl, h0, hb1⟩
  go_wp2_with fail
  refine (HI.out _).mono ?_
  rintro e w2 ⟨A1, c1, rfl, h1, hb2⟩
  have h0b : Aside0 (Read2 w2 A0 l.length c0 l) := ⟨h0.out.1, h0.out.2.1, Kd.C_below h0.out.2.2 hb2.out⟩
  go_wp2_with fail
  refine (equalC_any HL.out H2.out _ h1 h0b).mono ?_
  rintro e w' ⟨rfl, ⟨nd, rfl⟩⟩
  go_wp2_with fail
  refine (marked_any (w0 := w1) HL.out HM _ ⟨pw_below_drewN hb2.out nd⟩ ⟨Kd.S_drewN h1.out nd⟩).mono ?_
  rintro e w3 ⟨rfl, h3, hb3⟩
  go_wp2_with fail
  refine (held_any HH _ h3).mono ?_
  rintro e w' ⟨rfl, ⟨nd2, rfl⟩⟩
  go_wp2_with fail
  refine (HI.out _).mono ?_
  rintro e w4 ⟨A2, c2, rfl, h4, hb4⟩
  have hb34 : Aside0 (Below w3.heap.size w3 w4) := ⟨(pw_below_drewN (Below.refl _ w3) nd2).trans hb4.out⟩
  have hb14 : Aside0 (Below w1.heap.size w1 w4) := ⟨hb3.out.trans (hb34.out.mono hb3.out.size)⟩
  have h0d : Aside0 (Read2 w4 A0 l.length c0 l) := ⟨h0.out.1, h0.out.2.1, Kd.C_below h0.out.2.2 hb14.out⟩
  have h3d : Aside0 (Rows2 w4 w1.heap.size (.slice A1 l.length c1) ys) := ⟨Kd.S_below h3.out hb34.out⟩
  go_wp2_with fail
  refine (equalC_any HL.out H2.out _ h4 h0d).mono ?_
  rintro e w' ⟨rfl, ⟨nd3, rfl⟩⟩
  go_wp2_with fail
  refine (held_any HH _ ⟨Kd.S_drewN h3d.out nd3⟩).mono ?_
  rintro e w' ⟨rfl, ⟨nd4, rfl⟩⟩
  go_wp2_with fail
  go_ret
  exact ⟨rfl, pw_below_drewN (hb1.out.trans (hb14.out.mono hb1.out.size)) _⟩
end

section
open Go.Proofs.Ytmcgkjhfghgdlaa.HMarks Go.Proofs.Ytmcgkjhfghgdlaa.HRuns Go.Proofs.Ytmcgkjhfghgdlaa.PFnExactRunsOnSide
theorem l1In_eq (a b c : Int) : spec_l1In.f a b c = some (decide (b ≤ a ∧ a ≤ c)) := by
  unfold spec_l1In.f
  by_cases h : a ≥ b
  · rw [if_pos h]; congr 1; simp; omega
  · rw [if_neg h]; congr 1; simp; omega
theorem hoAsked_eq (a : Int) : spec_hoAsked.f a = some (decide (1 ≤ a ∧ a ≤ 1000000)) := by
  unfold spec_hoAsked.f; rw [l1In_eq]; rfl

def One (l : List (List Int)) (w : World) (e : Ending) (w' : World) : Prop :=
  ∃ A c, e = .returned (.slice A l.length c) ∧ Aside0 (Rows2 w' w.heap.size (.slice A l.length c) l) ∧ Aside0 (Below w.heap.size w w')

theorem one_of {sum step : Int} {l : List (List Int)} (h : impl_runs.f 2000 sum step = some l) (w : World) : Calls Try.prog 44 #[.int .i64 sum, .int .i64 step] w (One l.reverse w) :=
  (impl_runs.calls 2000 sum step l w h).mono fun e w' ⟨v, he, hS, hb⟩ => by
    obtain ⟨A, c, rfl⟩ := Kd.S_slice hS
    exact ⟨A, c, he, ⟨hS⟩, ⟨hb⟩⟩

theorem impl_yes (sum : Int) (s0 : 1 ≤ sum) (s1 : sum ≤ 1000000) (r : List (List Int)) (hr : ∀ W, Calls Try.prog 44 #[.int .i64 sum, .int .i64 2] W (One r W)) (w : World) : Calls Try.prog 27 #[.int .i64 sum] w (Out r true w) := by
  have HI : Aside0 (Go.Proofs.Ytmcgkjhfghgdlaa.PFnExactRunsWithSum.impl_isRunSum.f sum = some true) := ⟨by rw [isRunSum_eq, decide_eq_true ⟨s0, s1⟩]⟩
  have HR := Aside0.mk hr
  clear hr
  go_enter Try.func27, Try.ntmps27
  go_wp2_with (first | (go_at_call 43; refine (Go.Proofs.Ytmcgkjhfghgdlaa.PFnExactRunsWithSum.impl_isRunSum.calls sum true _ HI.out).mono ?_; rintro e w' ⟨rfl, ⟨nd, rfl⟩⟩) | (go_at_call 44; refine (HR.out _).mono ?_; rintro e w1 ⟨A, c, rfl, h1, hb1⟩))
  go_ret2
  exact ⟨A, c, rfl, h1, ⟨(pw_below_drewN (Below.refl _ w) nd).trans hb1.out⟩⟩

theorem impl_no (sum : Int) (h : ¬ (1 ≤ sum ∧ sum ≤ 1000000)) (w : World) : Calls Try.prog 27 #[.int .i64 sum] w (Out [] false w) := by
  have HI : Aside0 (Go.Proofs.Ytmcgkjhfghgdlaa.PFnExactRunsWithSum.impl_isRunSum.f sum = some false) := ⟨by rw [isRunSum_eq, decide_eq_false h]⟩
  clear h
  go_enter Try.func27, Try.ntmps27
  go_wp2_with (go_at_call 43; refine (Go.Proofs.Ytmcgkjhfghgdlaa.PFnExactRunsWithSum.impl_isRunSum.calls sum false _ HI.out).mono ?_; rintro e w' ⟨rfl, ⟨nd, rfl⟩⟩)
  go_ret2
  exact ⟨none, 0, rfl, ⟨Kd.S_nil _ _ _ _ _⟩, ⟨pw_below_drewN (Below.refl _ w) nd⟩⟩

theorem walk (a : Int) (w : World) : Calls Try.prog 8 #[.int .i64 a] w fun e w' => e = .returned (.bool true) ∧ Below w.heap.size w w' := by
  by_cases h : 1 ≤ a ∧ a ≤ 1000000
  · obtain ⟨l, ei, es, ll, l2⟩ := runs_told a 2 h.1 h.2 (by omega) (by omega)
    have e : spec_RunsOnSide.f 2000 a = some (l.reverse, true) := by
      unfold spec_RunsOnSide.f
      rw [hoAsked_eq]
      simp only [Option.bind_some, decide_eq_true_eq]
      rw [if_pos h, es]; rfl
    exact law_over a l.reverse true (by rw [List.length_reverse]; omega) (fun x hx => l2 x (List.mem_reverse.1 hx)) (fun W => outC_of (ok := fun w k => w.heap.size ≤ k) (spec_RunsOnSide.calls 2000 a l.reverse true W e)) (fun W => impl_yes a h.1 h.2 l.reverse (fun W => one_of ei W) W) w
  · have e : spec_RunsOnSide.f 0 a = some ([], false) := by
      unfold spec_RunsOnSide.f
      rw [hoAsked_eq]
      simp only [Option.bind_some, decide_eq_true_eq]
      rw [if_neg h]
    exact law_over a [] false (by simp) (by simp) (fun W => outC_of (ok := fun w k => w.heap.size ≤ k) (spec_RunsOnSide.calls 0 a [] false W e)) (fun W => impl_no a h W) w
end
end Go.Proofs.Ytmcgkjhfghgdlaa.HRunsOnSide
