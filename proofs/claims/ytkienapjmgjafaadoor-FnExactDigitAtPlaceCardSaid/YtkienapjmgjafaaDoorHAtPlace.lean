/-
  DigitAtPlace: the law's walk.
-/
import Derived.Test.YtkienapjmgjafaaDoorHShows
import Derived.Test.YtkienapjmgjafaaDoorNum
namespace Go.Proofs.YtkienapjmgjafaaDoor.HAtPlace
open Go.RowKit Go.Proofs.YtkienapjmgjafaaDoorW.PrintWords Go.Proofs.YtkienapjmgjafaaDoorW.PrintLast Go.Proofs.YtkienapjmgjafaaDoorW.PrintMore Go.Proofs.YtkienapjmgjafaaDoor.Num Go.Proofs.YtkienapjmgjafaaDoor.Pwritten Go.Proofs.YtkienapjmgjafaaDoor.PdiPlace Go.Proofs.YtkienapjmgjafaaDoor.HLeast
open HSums (TI ti_stays itoa_in itoa_any within_any l1In_any str str_size dd_get dd_len dd_pos l1Num_any dd_ge dd_lt digit_byte)
open Go.Lib (decDigits)
set_option linter.unusedVariables false
set_option linter.unusedSimpArgs false
/-- how many digits are written for the numbers from low to n, low having dig digits -/
def wr : Nat → Int → Int → Int → Int
  | 0, _, _, _ => 0
  | k + 1, low, dig, n => if low ≤ n then dig * ((if n ≤ 10 * low - 1 then n else 10 * low - 1) - low + 1) + wr k (10 * low) (dig + 1) n else 0

theorem wr_out {k : Nat} {low dig n : Int} (h : n < low) : wr k low dig n = 0 := by
  cases k with
  | zero => rfl
  | succ k => rw [wr, if_neg (by omega)]

theorem wr_succ (k : Nat) : ∀ (i : Nat) (low dig n : Int), i < k → 1 ≤ low → low * 10 ^ i ≤ n + 1 → n + 1 < low * 10 ^ (i + 1) →
    wr k low dig (n + 1) = wr k low dig n + (dig + i) := by
  induction k with
  | zero => intro i _ _ _ h; omega
  | succ k ih =>
    intro i low dig n hi hl h1 h2
    cases i with
    | zero =>
      simp only [Int.pow_zero, Int.mul_one] at h1
      have h2' : n + 1 < low * 10 := by simpa using h2
      rw [wr, if_pos (by omega), if_pos (by omega), wr_out (low := 10 * low) (by omega)]
      by_cases c : low ≤ n
      · rw [wr, if_pos c, if_pos (by omega), wr_out (by omega)]
        have : dig * (n + 1 - low + 1) = dig * (n - low + 1) + dig := by grind
        omega
      · rw [wr_out (by omega)]
        have : n + 1 = low := by omega
        rw [this]; simp
    | succ i =>
      have e : low * 10 ^ (i + 1) = 10 * low * 10 ^ i := by rw [Int.pow_succ]; grind
      have e2 : low * 10 ^ (i + 1 + 1) = 10 * low * 10 ^ (i + 1) := by rw [Int.pow_succ]; grind
      have hp : 10 * low ≤ 10 * low * 10 ^ i := by
        have : (1 : Int) ≤ 10 ^ i := by
          have := Int.pow_pos (n := 10) (m := i) (by omega)
          omega
        have := Int.mul_le_mul_of_nonneg_left this (show 0 ≤ 10 * low by omega)
        omega
      have := ih i (10 * low) (dig + 1) n (by omega) (by omega) (by omega) (by omega)
      rw [wr, if_pos (by omega), if_neg (by omega), wr, if_pos (by omega), this]
      by_cases c : n ≤ 10 * low - 1
      · rw [if_pos c]
        have : n = 10 * low - 1 := by omega
        rw [this]; push_cast; omega
      · rw [if_neg c]; push_cast; omega

theorem wr_bound (k : Nat) : ∀ (low dig n : Int), 1 ≤ low → 0 ≤ dig → dig + k ≤ 20 → n ≤ 1000000000000 → low ≤ n + 1 → 0 ≤ wr k low dig n ∧ wr k low dig n ≤ 20 * (n - low + 1) := by
  induction k with
  | zero => intro low dig n _ _ _ _ _; rw [wr]; omega
  | succ k ih =>
    intro low dig n h1 h2 h3 h4 h5
    by_cases c : low ≤ n
    · rw [wr, if_pos c]
      by_cases g : n ≤ 10 * low - 1
      · rw [if_pos g, wr_out (by omega)]
        have b := mul_bound h2 (show 0 ≤ n - low + 1 by omega) (show dig ≤ 20 by omega) (Int.le_refl (n - low + 1))
        omega
      · rw [if_neg g]
        have b := mul_bound h2 (show 0 ≤ 10 * low - 1 - low + 1 by omega) (show dig ≤ 20 by omega) (Int.le_refl (10 * low - 1 - low + 1))
        have := ih (10 * low) (dig + 1) n (by omega) (by omega) (by push_cast at h3 ⊢; omega) h4 (by omega)
        omega
    · rw [wr_out (by omega)]; omega
/-- the program's count of the digits that are written -/
theorem implWritten_go (n : Int) (hn : n ≤ 1000000000000) (d : Nat) : ∀ (k : Nat) (all low dig : Int), 1 ≤ low → low ≤ 10000000000000 → 0 ≤ dig → dig + d ≤ 20 → 0 ≤ all → all ≤ 20 * (low - 1) → d < k → n < low * 10 ^ d →
    impl_written.l0 k n all dig low = some (all + wr d low dig n) := by
  induction d with
  | zero =>
    intro k all low dig h1 h2 h3 h4 h5 h6 hk hp
    obtain ⟨k, rfl⟩ : ∃ m, k = m + 1 := ⟨k - 1, by omega⟩
    simp only [impl_written.l0]
    rw [if_neg (by simpa using hp), wr, Int.add_zero]
  | succ d ih =>
    intro k all low dig h1 h2 h3 h4 h5 h6 hk hp
    obtain ⟨k, rfl⟩ : ∃ m, k = m + 1 := ⟨k - 1, by omega⟩
    simp only [impl_written.l0]
    by_cases c : low ≤ n
    · have e : mn n (10 * low - 1) = (if n ≤ 10 * low - 1 then n else 10 * low - 1) := by
        unfold mn; split <;> split <;> omega
      obtain ⟨t, ht⟩ : ∃ t, t = (if n ≤ 10 * low - 1 then n else 10 * low - 1) := ⟨_, rfl⟩
      have t1 : low ≤ t := by rw [ht]; split <;> omega
      have t2 : t ≤ 10 * low - 1 := by rw [ht]; split <;> omega
      have t3 : t ≤ n := by rw [ht]; split <;> omega
      have b := mul_bound h3 (show 0 ≤ t - low + 1 by omega) (show dig ≤ 20 by omega) (Int.le_refl (t - low + 1))
      rw [if_pos c, wi (x := 10 * low) (by omega) (by omega), wi (x := 10 * low - 1) (by omega) (by omega), e, ← ht, wi (x := t - low) (by omega) (by omega), wi (x := t - low + 1) (by omega) (by omega),
        wi (x := dig * (t - low + 1)) (by omega) (by omega), wi (x := all + dig * (t - low + 1)) (by omega) (by omega), wi (x := dig + 1) (by omega) (by omega), wi (x := low * 10) (by omega) (by omega), wr, if_pos c, ← ht,
        ih k _ (low * 10) (dig + 1) (by omega) (by omega) (by omega) (by push_cast at h4 ⊢; omega) (by omega) (by omega) (by omega) (by rw [Int.pow_succ] at hp; grind), show low * 10 = 10 * low by omega]
      congr 1; omega
    · rw [if_neg c, wr, if_neg c, Int.add_zero]

theorem implWritten_tells {n : Int} (hn : n ≤ 1000000000000) {k : Nat} (hk : 13 < k) : impl_written.f k n = some (wr 13 1 1 n) := by
  unfold impl_written.f
  rw [implWritten_go n hn 13 k 0 1 1 (by omega) (by omega) (by omega) (by omega) (by omega) (by omega) hk (by omega), Int.zero_add]
/-- the reference's -/
theorem specWritten_go (n : Int) (hn : n ≤ 1000000000000) (d : Nat) : ∀ (k : Nat) (all low dig : Int), 1 ≤ low → low ≤ 10000000000000 → 0 ≤ dig → dig + d ≤ 20 → 0 ≤ all → all ≤ 20 * (low - 1) → d < k → n < low * 10 ^ d →
    spec_diWritten.l0 k n all low dig = some (all + wr d low dig n) := by
  induction d with
  | zero =>
    intro k all low dig h1 h2 h3 h4 h5 h6 hk hp
    obtain ⟨k, rfl⟩ : ∃ m, k = m + 1 := ⟨k - 1, by omega⟩
    simp only [spec_diWritten.l0]
    rw [if_neg (by simpa using hp), wr, Int.add_zero]
  | succ d ih =>
    intro k all low dig h1 h2 h3 h4 h5 h6 hk hp
    obtain ⟨k, rfl⟩ : ∃ m, k = m + 1 := ⟨k - 1, by omega⟩
    simp only [spec_diWritten.l0]
    by_cases c : low ≤ n
    · have e : spec_l1Least.f n (low * 10 - 1) = some (if n ≤ 10 * low - 1 then n else 10 * low - 1) := by
        unfold spec_l1Least.f; split <;> split <;> congr 1 <;> omega
      obtain ⟨t, ht⟩ : ∃ t, t = (if n ≤ 10 * low - 1 then n else 10 * low - 1) := ⟨_, rfl⟩
      have t1 : low ≤ t := by rw [ht]; split <;> omega
      have t2 : t ≤ 10 * low - 1 := by rw [ht]; split <;> omega
      have t3 : t ≤ n := by rw [ht]; split <;> omega
      have b := mul_bound h3 (show 0 ≤ t - low + 1 by omega) (show dig ≤ 20 by omega) (Int.le_refl (t - low + 1))
      have bc : (t - low + 1) * dig = dig * (t - low + 1) := Int.mul_comm _ _
      rw [if_pos c, wi (x := low * 10) (by omega) (by omega), wi (x := low * 10 - 1) (by omega) (by omega), e, ← ht]
      simp only [Option.bind_some]
      rw [wi (x := t - low) (by omega) (by omega), wi (x := t - low + 1) (by omega) (by omega), bc,
        wi (x := dig * (t - low + 1)) (by omega) (by omega), wi (x := all + dig * (t - low + 1)) (by omega) (by omega), wi (x := dig + 1) (by omega) (by omega), wr, if_pos c, ← ht,
        ih k _ (low * 10) (dig + 1) (by omega) (by omega) (by omega) (by push_cast at h4 ⊢; omega) (by omega) (by omega) (by omega) (by rw [Int.pow_succ] at hp; grind), show low * 10 = 10 * low by omega]
      congr 1; omega
    · rw [if_neg c, wr, if_neg c, Int.add_zero]

theorem specWritten_tells {n : Int} (hn : n ≤ 1000000000000) {k : Nat} (hk : 13 < k) : spec_diWritten.f k n = some (wr 13 1 1 n) := by
  unfold spec_diWritten.f
  rw [specWritten_go n hn 13 k 0 1 1 (by omega) (by omega) (by omega) (by omega) (by omega) (by omega) hk (by omega), Int.zero_add]
theorem wr_up (n : Int) (h0 : 0 ≤ n) (h1 : n < 1000000000000) : ∃ i : Nat, i < 13 ∧ 10 ^ i ≤ n + 1 ∧ n + 1 < 10 ^ (i + 1) ∧ wr 13 1 1 (n + 1) = wr 13 1 1 n + (1 + i) := by
  have go : ∀ i : Nat, i < 13 → (10 : Int) ^ i ≤ n + 1 → n + 1 < 10 ^ (i + 1) → wr 13 1 1 (n + 1) = wr 13 1 1 n + (1 + i) := fun i hi a b =>
    wr_succ 13 i 1 1 n hi (by omega) (by simpa using a) (by simpa using b)
  by_cases c0 : n + 1 < 10
  · exact ⟨0, by omega, by omega, by omega, go 0 (by omega) (by omega) (by omega)⟩
  by_cases c1 : n + 1 < 100
  · exact ⟨1, by omega, by omega, by omega, go 1 (by omega) (by omega) (by omega)⟩
  by_cases c2 : n + 1 < 1000
  · exact ⟨2, by omega, by omega, by omega, go 2 (by omega) (by omega) (by omega)⟩
  by_cases c3 : n + 1 < 10000
  · exact ⟨3, by omega, by omega, by omega, go 3 (by omega) (by omega) (by omega)⟩
  by_cases c4 : n + 1 < 100000
  · exact ⟨4, by omega, by omega, by omega, go 4 (by omega) (by omega) (by omega)⟩
  by_cases c5 : n + 1 < 1000000
  · exact ⟨5, by omega, by omega, by omega, go 5 (by omega) (by omega) (by omega)⟩
  by_cases c6 : n + 1 < 10000000
  · exact ⟨6, by omega, by omega, by omega, go 6 (by omega) (by omega) (by omega)⟩
  by_cases c7 : n + 1 < 100000000
  · exact ⟨7, by omega, by omega, by omega, go 7 (by omega) (by omega) (by omega)⟩
  by_cases c8 : n + 1 < 1000000000
  · exact ⟨8, by omega, by omega, by omega, go 8 (by omega) (by omega) (by omega)⟩
  by_cases c9 : n + 1 < 10000000000
  · exact ⟨9, by omega, by omega, by omega, go 9 (by omega) (by omega) (by omega)⟩
  by_cases c10 : n + 1 < 100000000000
  · exact ⟨10, by omega, by omega, by omega, go 10 (by omega) (by omega) (by omega)⟩
  by_cases c11 : n + 1 < 1000000000000
  · exact ⟨11, by omega, by omega, by omega, go 11 (by omega) (by omega) (by omega)⟩
  exact ⟨12, by omega, by omega, by omega, go 12 (by omega) (by omega) (by omega)⟩

theorem wr_step (n : Int) (h0 : 0 ≤ n) (h1 : n < 1000000000000) : wr 13 1 1 n < wr 13 1 1 (n + 1) := by
  obtain ⟨i, _, _, _, e⟩ := wr_up n h0 h1
  omega

theorem wr_mono (d : Nat) : ∀ m n : Int, 0 ≤ m → n - m = d → n ≤ 1000000000000 → wr 13 1 1 m ≤ wr 13 1 1 n := by
  induction d with
  | zero => intro m n _ h _; rw [show n = m by omega]; omega
  | succ d ih =>
    intro m n h0 h h1
    have a := wr_step m h0 (by omega)
    have b := ih (m + 1) n (by omega) (by omega) h1
    omega
/-- the reference's search comes to one before the place from which more is written -/
theorem specLast_go (digits : Int) (h0 : 0 ≤ digits) (d : Nat) : ∀ (k : Nat) (lo hi : Int), 0 ≤ lo → lo ≤ hi → hi ≤ 1000000000000 → hi - lo ≤ d → d + 14 < k → wr 13 1 1 lo ≤ digits → (∀ m, hi < m → m ≤ 1000000000000 → digits < wr 13 1 1 m) →
    ∃ r, spec_diLast.l0 k digits lo hi = some (r - 1) ∧ Cut (fun x => decide (digits < wr 13 1 1 x)) 0 (1000000000000 + 1) r := by
  have fin : ∀ (k : Nat) (lo : Int), 0 ≤ lo → lo ≤ 1000000000000 → 0 < k → wr 13 1 1 lo ≤ digits → (∀ m, lo < m → m ≤ 1000000000000 → digits < wr 13 1 1 m) →
      ∃ r, spec_diLast.l0 k digits lo lo = some (r - 1) ∧ Cut (fun x => decide (digits < wr 13 1 1 x)) 0 (1000000000000 + 1) r := by
    intro k lo a b hk p q
    obtain ⟨k, rfl⟩ : ∃ m, k = m + 1 := ⟨k - 1, by omega⟩
    refine ⟨lo + 1, by simp only [spec_diLast.l0]; rw [if_neg (by omega)]; congr 1; omega, by omega, by omega, fun m x y => ?_, fun m x y => ?_⟩
    · have := wr_mono (lo - m).toNat m lo x (by omega) b
      exact decide_eq_false (by omega)
    · exact decide_eq_true (q m (by omega) (by omega))
  induction d with
  | zero =>
    intro k lo hi a1 a2 a3 a4 hk p q
    have : hi = lo := by omega
    subst this
    exact fin k hi a1 a3 (by omega) p q
  | succ d ih =>
    intro k lo hi a1 a2 a3 a4 hk p q
    by_cases c : lo < hi
    · obtain ⟨k, rfl⟩ : ∃ m, k = m + 1 := ⟨k - 1, by omega⟩
      obtain ⟨mid, hm⟩ : ∃ mid, mid = (lo + hi + 1) / 2 := ⟨_, rfl⟩
      have e : Int.tdiv (wrap64 (wrap64 (lo + hi) + 1)) 2 = (lo + hi + 1) / 2 := by rw [wi (x := lo + hi) (by omega) (by omega), wi (by omega) (by omega), td2 (by omega)]
      simp only [spec_diLast.l0]
      rw [if_pos c, e, ← hm, wi (x := mid) (by omega) (by omega), specWritten_tells (by omega) (by omega), wi (x := mid - 1) (by omega) (by omega)]
      simp only [Option.bind_some]
      by_cases g : wr 13 1 1 mid ≤ digits
      · rw [if_pos g]
        exact ih k mid hi (by omega) (by omega) a3 (by omega) (by omega) g q
      · rw [if_neg g]
        exact ih k lo (mid - 1) a1 (by omega) (by omega) (by omega) (by omega) p (fun m x y => by
          have := wr_mono (m - mid).toNat mid m (by omega) (by omega) y; omega)
    · have : hi = lo := by omega
      subst this
      exact fin k hi a1 a3 (by omega) p q

theorem specLast_tells (digits : Int) (h0 : 0 ≤ digits) (k : Nat) (hk : 1000000000014 < k) : ∃ r, spec_diLast.f k digits = some (r - 1) ∧ Cut (fun x => decide (digits < wr 13 1 1 x)) 0 (1000000000000 + 1) r := by
  unfold spec_diLast.f
  have w0 : wr 13 1 1 0 = 0 := wr_out (by omega)
  exact specLast_go digits h0 1000000000000 k 0 1000000000000 (by omega) (by omega) (by omega) (by omega) hk (by omega) (fun m x y => by omega)

theorem written_any {n : Int} (hn : n ≤ 1000000000000) (w : World) : Calls Tryd.prog 63 #[.int .i64 n] w fun e w' => e = .returned (.int .i64 (wr 13 1 1 n)) ∧ Below w.heap.size w w' :=
  impl_written.calls 20 n _ w (implWritten_tells hn (by omega))

set_option maxHeartbeats 1000000 in
theorem closure_tells (B : Nat) (k : Int) (w : World) (hB : B < w.heap.size) (hc : w.cell? ⟨B, 0, none⟩ = some (.int .i64 k)) :
    Tells 62 #[.pointer (some ⟨B, 0, none⟩)] (fun x => decide (k ≤ wr 13 1 1 x)) 1 1000000000000 w := by
  intro W x hb hx0 hx1
  have hcW : W.cell? ⟨B, 0, none⟩ = some (.int .i64 k) := (hb.cell (p := ⟨B, 0, none⟩) hB).trans hc
  have HB := Aside0.mk hb
  clear hb hc
  go_enter Tryd.func62, Tryd.ntmps62
  go_wp2
  have hBW : B < W.heap.size := Nat.lt_of_lt_of_le hB HB.out.size
  go_region_with (go_at_call 63; refine (written_any hx1 _).mono ?_; rintro e w1 ⟨rfl, hb1⟩; have c1 := (hb1.cell (p := ⟨B, 0, none⟩) (by simpa using hBW)).trans hcW)
  all_goals
    go_wp2
    go_ret
    exact ⟨rfl, HB.out.drew.trans (hb1.mono HB.out.size)⟩

theorem below_box {w w' : World} {o : Obj} {n : Nat} (hb : Below ((w.alloc o).drewN n).heap.size ((w.alloc o).drewN n) w') : Below w.heap.size w w' := by
  have h1 : Below w.heap.size w ((w.alloc o).drewN n) := pw_below_drewN ((Below.refl _ w).alloc (Nat.le_refl _) _) n
  exact h1.trans (hb.mono h1.size)

theorem wr_top : wr 13 1 1 1000000000000 = 11888888888902 := by rfl

def Found (k : Int) (w : World) (e : Ending) (w' : World) : Prop :=
  ∃ r, Cut (fun x => decide (k ≤ wr 13 1 1 x)) 1 (1000000000000 + 1) r ∧ e = .returned (.tuple #[.int .i64 r, .int .i64 (k - wr 13 1 1 (r - 1)), .bool true]) ∧ Below w.heap.size w w'

set_option maxHeartbeats 2000000 in
theorem impl_yes (k : Int) (h0 : 1 ≤ k) (h1 : k ≤ 1000000000000) (w : World) :
    Calls Tryd.prog 47 #[.int .i64 k] w (Found k w) := by
  have HI := Aside0.mk (fun W => within_any k 1 1000000000000 W)
  rw [decide_eq_true ⟨h0, h1⟩] at HI
  have HC := fun (W : World) (hB : w.heap.size < W.heap.size) (hc : W.cell? ⟨w.heap.size, 0, none⟩ = some (.int .i64 k)) =>
    least_any 62 #[.pointer (some ⟨w.heap.size, 0, none⟩)] (enters_of Tryd.func62 (by kernel_rfl) rfl) (fun x => decide (k ≤ wr 13 1 1 x)) 1 1000000000000 W (by omega) (by omega) (by omega)
      (closure_tells w.heap.size k W hB hc) (fun m n a b c d => by
        have := wr_mono (n - m).toNat m n (by omega) (by omega) c
        simp only [decide_eq_true_eq] at d ⊢; omega)
  have HL := Aside0.mk HC
  clear HC
  go_enter Tryd.func47, Tryd.ntmps47
  go_wp2_with (first | (go_at_call 49; refine (HI.out _).mono ?_; rintro e w' ⟨rfl, ⟨nd, rfl⟩⟩) | (go_at_call 50; refine (HL.out _ (by simp) (by simp)).mono ?_; rintro e w1 ⟨r, hr, rfl, hb⟩; have R := Aside0.mk hr; clear hr; have r0 := R.out.low; have r1 := R.out.high; have c1 : w1.cell? ⟨w.heap.size, 0, none⟩ = some (.int .i64 k) := (hb.cell (p := ⟨w.heap.size, 0, none⟩) (by simp)).trans (by simp); have s1 : w.heap.size < w1.heap.size := Nat.lt_of_lt_of_le (by simp) hb.size))
  have wb := wr_bound 13 1 1 (r - 1) (by omega) (by omega) (by omega) (by omega) (by omega)
  have ew1 : IntKind.i64.wrap (r - 1) = r - 1 := IntWalk.i64_in _ (by omega)
  have ew2 : IntKind.i64.wrap (k - wr 13 1 1 (r - 1)) = k - wr 13 1 1 (r - 1) := IntWalk.i64_in _ (by omega)
  have rb : r - 1 ≤ 1000000000000 := by omega
  go_region_with (go_at_call 63; refine (written_any rb _).mono ?_; rintro e w2 ⟨rfl, hb2⟩; have c2 : w2.cell? ⟨w.heap.size, 0, none⟩ = some (.int .i64 k) := (hb2.cell (p := ⟨w.heap.size, 0, none⟩) (by simpa using s1)).trans (by simpa using c1))
  all_goals
    go_wp2
    go_ret3
    exact ⟨r, R.out, rfl, ((below_box hb).drew).trans (hb2.mono (below_box hb).size)⟩

theorem impl_no (k : Int) (h : ¬ (1 ≤ k ∧ k ≤ 1000000000000)) (w : World) :
    Calls Tryd.prog 47 #[.int .i64 k] w fun e w' => e = .returned (.tuple #[.int .i64 0, .int .i64 0, .bool false]) ∧ Below w.heap.size w w' := by
  have HI := Aside0.mk (fun W => within_any k 1 1000000000000 W)
  rw [decide_eq_false h] at HI
  go_enter Tryd.func47, Tryd.ntmps47
  go_wp2_with (go_at_call 49; refine (HI.out _).mono ?_; rintro e w' ⟨rfl, ⟨nd, rfl⟩⟩)
  go_ret3
  exact ⟨rfl, pw_below_drewN ((Below.refl _ w).alloc (Nat.le_refl _) _) nd⟩

theorem num_size (i : Nat) : ∀ (k : Nat) (n : Int), i < k → i ≤ 20 → 0 ≤ n → n ≤ 1000000000000 → (i = 0 ∨ 10 ^ i ≤ n) → n < 10 ^ (i + 1) → ∃ s, spec_l1Num.f k n = some s ∧ s.size = i + 1 := by
  induction i with
  | zero =>
    intro k n hk _ h0 h1 _ h3
    obtain ⟨k, rfl⟩ : ∃ m, k = m + 1 := ⟨k - 1, by omega⟩
    simp only [spec_l1Num.f]
    rw [if_pos (by simpa using h3)]
    exact ⟨_, rfl, rfl⟩
  | succ i ih =>
    intro k n hk hi h0 h1 h2 h3
    obtain ⟨k, rfl⟩ : ∃ m, k = m + 1 := ⟨k - 1, by omega⟩
    have h2 : (10 : Int) ^ (i + 1) ≤ n := by
      rcases h2 with h2 | h2
      · omega
      · exact h2
    rw [Int.pow_succ] at h2 h3
    have p : (0 : Int) < 10 ^ i := Int.pow_pos (by omega)
    rw [Int.pow_succ] at h3
    obtain ⟨s, e, z⟩ := ih k (n / 10) (by omega) (by omega) (by omega) (by omega) (Or.inr (by omega)) (by rw [Int.pow_succ]; omega)
    simp only [spec_l1Num.f]
    rw [if_neg (by omega), td h0, wi (x := n / 10) (by omega) (by omega), e]
    simp only [Option.bind_some]
    have one : (strOfNums ([(wrap64 (48 + (Int.tmod n 10))) % 256] : List Int)).size = 1 := rfl
    rw [one, if_pos (by omega)]
    exact ⟨_, rfl, by rw [ByteArray.size_append, one, z]⟩

theorem place_told (k : Int) (h0 : 1 ≤ k) (h1 : k ≤ 1000000000000) (r : Int) (c : Cut (fun x => decide (k ≤ wr 13 1 1 x)) 1 (1000000000000 + 1) r) : spec_diPlace.f 1000000000020 k = some (r, k - wr 13 1 1 (r - 1)) := by
  obtain ⟨q, e, d⟩ := specLast_tells k (by omega) 1000000000020 (by omega)
  have w0 : wr 13 1 1 0 = 0 := wr_out (by omega)
  have q0 := d.low
  have q1 := d.high
  have qn : ∀ m, 0 ≤ m → m < q → wr 13 1 1 m ≤ k := fun m a b => by have := d.no m a b; simp only [decide_eq_false_iff_not] at this; omega
  have qy : ∀ m, q ≤ m → m ≤ 1000000000000 → k < wr 13 1 1 m := fun m a b => by have := d.yes m a (by omega); simpa using this
  have q2 : 1 ≤ q := by
    by_cases z : q = 0
    · have := qy 0 (by omega) (by omega); omega
    · omega
  have wt := wr_top
  have q3 : q ≤ 1000000000000 := by
    by_cases z : q ≤ 1000000000000
    · exact z
    · have := qn 1000000000000 (by omega) (by omega); omega
  have wq := qn (q - 1) (by omega) (by omega)
  have wq2 := qy q (by omega) (by omega)
  unfold spec_diPlace.f
  rw [e]
  simp only [Option.bind_some]
  rw [specWritten_tells (by omega) (by omega)]
  simp only [Option.bind_some]
  have wb := wr_bound 13 1 1 (q - 1) (by omega) (by omega) (by omega) (by omega) (by omega)
  rw [wi (x := k - wr 13 1 1 (q - 1)) (by omega) (by omega), wi (x := q - 1 + 1) (by omega) (by omega), show q - 1 + 1 = q by omega]
  have cut : ∀ t, 1 ≤ t → t ≤ 1000000000000 → wr 13 1 1 (t - 1) < k → k ≤ wr 13 1 1 t → r = t := fun t a b x y => by
    refine c.one ⟨a, by omega, fun m u v => ?_, fun m u v => ?_⟩
    · have := wr_mono (t - 1 - m).toNat m (t - 1) (by omega) (by omega) (by omega)
      exact decide_eq_false (by omega)
    · have := wr_mono (m - t).toNat t m (by omega) (by omega) (by omega)
      exact decide_eq_true (by omega)
  by_cases z : k - wr 13 1 1 (q - 1) = 0
  · have l1 : 1 ≤ q - 1 := by
      by_cases y : q - 1 = 0
      · rw [y] at z; omega
      · omega
    obtain ⟨i, i1, i2, i3, i4⟩ := wr_up (q - 1 - 1) (by omega) (by omega)
    rw [show q - 1 - 1 + 1 = q - 1 by omega] at i2 i3 i4
    obtain ⟨s, f, g⟩ := num_size i 1000000000020 (q - 1) (by omega) (by omega) (by omega) (by omega) (Or.inr i2) i3
    have : r = q - 1 := cut (q - 1) l1 (by omega) (by omega) (by omega)
    rw [if_pos z, f, this]
    simp only [Option.bind_some]
    rw [g]; congr 2; congr 1; push_cast; omega
  · have : r = q := cut q q2 q3 (by omega) (by omega)
    rw [if_neg z, this]

/-- where the search of the program ends, for each place -/
theorem cut_is (k : Int) : ∃ r, Cut (fun x => decide (k ≤ wr 13 1 1 x)) 1 (1000000000000 + 1) r := by
  have go : ∀ (d : Nat) (lo : Int), 1 ≤ lo → lo ≤ 1000000000001 → 1000000000001 - lo = d → (∀ m, 1 ≤ m → m < lo → wr 13 1 1 m < k) → ∃ r, Cut (fun x => decide (k ≤ wr 13 1 1 x)) 1 (1000000000000 + 1) r := by
    intro d
    induction d with
    | zero => intro lo a b c n; exact ⟨lo, a, by omega, fun m x y => decide_eq_false (by have := n m x y; omega), fun m x y => by omega⟩
    | succ d ih =>
      intro lo a b c n
      by_cases g : wr 13 1 1 lo < k
      · exact ih (lo + 1) (by omega) (by omega) (by omega) (fun m x y => by
          by_cases e : m = lo
          · rw [e]; exact g
          · exact n m x (by omega))
      · exact ⟨lo, a, by omega, fun m x y => decide_eq_false (by have := n m x y; omega), fun m x y => decide_eq_true (by
          have := wr_mono (m - lo).toNat lo m (by omega) (by omega) (by omega); omega)⟩
  exact go 1000000000000 1 (by omega) (by omega) (by omega) (fun m x y => by omega)


/-- which of the number's digits it is -/
structure Digit (k r q : Int) (m i : Nat) : Prop where
  n : r = m
  q1 : q = k - wr 13 1 1 (r - 1)
  i1 : q - 1 = i
  i2 : i < (decDigits m).length
  m2 : m ≤ 1000000000000

theorem digit_of {k r : Int} (h0 : 1 ≤ k) (h1 : k ≤ 1000000000000) (c : Cut (fun x => decide (k ≤ wr 13 1 1 x)) 1 (1000000000000 + 1) r) : ∃ m i, Digit k r (k - wr 13 1 1 (r - 1)) m i := by
  have r1 := c.low
  have r2 := c.high
  have wt := wr_top
  have w0 : wr 13 1 1 0 = 0 := wr_out (by omega)
  have r3 : r ≤ 1000000000000 := by
    by_cases z : r ≤ 1000000000000
    · exact z
    · have := c.no 1000000000000 (by omega) (by omega)
      simp only [decide_eq_false_iff_not] at this; omega
  have up : k ≤ wr 13 1 1 r := by
    have := c.yes r (by omega) (by omega); simpa using this
  have dn : wr 13 1 1 (r - 1) < k := by
    by_cases z : r = 1
    · rw [z, show (1 : Int) - 1 = 0 from rfl, w0]; omega
    · have := c.no (r - 1) (by omega) (by omega)
      simp only [decide_eq_false_iff_not] at this; omega
  obtain ⟨e, e1, e2, e3, e4⟩ := wr_up (r - 1) (by omega) (by omega)
  rw [show r - 1 + 1 = r by omega] at e2 e3 e4
  obtain ⟨m, hm⟩ : ∃ m : Nat, r = m := ⟨r.toNat, by omega⟩
  have lt := dd_lt m
  have le : e + 1 ≤ (decDigits m).length := by
    rcases Nat.lt_or_ge (decDigits m).length (e + 1) with g | g
    · have : 10 ^ (decDigits m).length ≤ 10 ^ e := Nat.pow_le_pow_right (by omega) (by omega)
      have x : ((10 ^ e : Nat) : Int) ≤ m := by push_cast; rw [← hm]; exact e2
      have : (10 ^ e : Nat) ≤ m := by exact_mod_cast x
      omega
    · exact g
  exact ⟨m, (k - wr 13 1 1 (r - 1) - 1).toNat, hm, rfl, by omega, by omega, by omega⟩

theorem at_impl (k r q : Int) (h0 : 1 ≤ k) (h1 : k ≤ 1000000000000) (c : Cut (fun x => decide (k ≤ wr 13 1 1 x)) 1 (1000000000000 + 1) r) (m i : Nat) (D : Digit k r q m i) (w : World) (hT : TI w) :
    Calls Tryd.prog 24 #[.int .i64 k] w fun e w' => e = .returned (.tuple #[.int .i64 (m / 10 ^ ((decDigits m).length - 1 - i) % 10 : Nat), .bool true]) ∧ Below w.heap.size w w' := by
  have HN := Aside0.mk (fun W => impl_yes k h0 h1 W)
  have HR := Aside0.mk c
  have HQ := Aside0.mk D.q1
  have hi := D.i1
  have hl := D.i2
  have m2 := D.m2
  have hr := Aside0.mk D.n
  have HI := Aside0.mk (fun W (hb : Below w.heap.size w W) => itoa_any m (by omega) W (ti_stays hT hb))
  have HG := dd_get m
  have l13 : (decDigits m).length ≤ 13 := dd_len 13 (by omega) (by omega)
  obtain ⟨l, el⟩ : ∃ l, l = decDigits m := ⟨_, rfl⟩
  rw [← el] at HI HG hl l13 ⊢
  clear el D c
  have hbyte := HSums.byte_at HG hl
  have hD : m / 10 ^ (l.length - 1 - i) % 10 < 10 := Nat.mod_lt _ (by omega)
  clear HG
  generalize m / 10 ^ (l.length - 1 - i) % 10 = d at hbyte hD ⊢
  have hsz := str_size l
  have hb : ((str l)[i]'(by rw [str_size]; exact hl)).toNat = 48 + d := by
    have e : ((str l)[i]'(by rw [str_size]; exact hl)) = l[i] := rfl
    rw [e]; omega
  have ed : ((48 + (d : Int)) - 48) % 256 = d := by omega
  have ed2 : 48 + (d : Int) - 48 = d := by omega
  clear hbyte
  go_enter Tryd.func24, Tryd.ntmps24
  go_wp2_with (first | (go_at_call 47; refine (HN.out _).mono ?_; rintro e w1 ⟨r', hr', rfl, hb1⟩; obtain rfl := HR.out.one hr'; rw [← HQ.out, hr.out]; have HB1 := Aside0.mk hb1; clear hb1 hr') | (go_at_call 48; refine (HI.out _ HB1.out).mono ?_; rintro e w2 ⟨rfl, hb2⟩))
  go_ret2
  exact ⟨rfl, HB1.out.trans (hb2.mono HB1.out.size)⟩

theorem at_spec (k r q : Int) (h0 : 1 ≤ k) (h1 : k ≤ 1000000000000) (c : Cut (fun x => decide (k ≤ wr 13 1 1 x)) 1 (1000000000000 + 1) r) (m i : Nat) (D : Digit k r q m i) (w : World) :
    Calls Tryd.prog 23 #[.int .i64 k] w fun e w' => e = .returned (.tuple #[.int .i64 (m / 10 ^ ((decDigits m).length - 1 - i) % 10 : Nat), .bool true]) ∧ Below w.heap.size w w' := by
  have HN := Aside0.mk (fun W => l1In_any k 1 1000000000000 W)
  rw [decide_eq_true ⟨h0, h1⟩] at HN
  have pt := place_told k h0 h1 r c
  rw [← D.q1, D.n] at pt
  have HP := Aside0.mk (fun W => spec_diPlace.calls 1000000000020 k m q W pt)
  have hi := D.i1
  have hl := D.i2
  have m2 := D.m2
  have HI := Aside0.mk (fun W => l1Num_any m (by omega) W)
  have HG := dd_get m
  have l13 : (decDigits m).length ≤ 13 := dd_len 13 (by omega) (by omega)
  obtain ⟨l, el⟩ : ∃ l, l = decDigits m := ⟨_, rfl⟩
  rw [← el] at HI HG hl l13 ⊢
  clear el D c pt
  have hbyte := HSums.byte_at HG hl
  have hD : m / 10 ^ (l.length - 1 - i) % 10 < 10 := Nat.mod_lt _ (by omega)
  clear HG
  generalize m / 10 ^ (l.length - 1 - i) % 10 = d at hbyte hD ⊢
  have hsz := str_size l
  have hb : ((str l)[i]'(by rw [str_size]; exact hl)).toNat = 48 + d := by
    have e : ((str l)[i]'(by rw [str_size]; exact hl)) = l[i] := rfl
    rw [e]; omega
  have ed : ((48 + (d : Int)) - 48) % 256 = d := by omega
  have ed2 : 48 + (d : Int) - 48 = d := by omega
  clear hbyte
  go_enter Tryd.func23, Tryd.ntmps23
  go_wp2_with (first | (go_at_call 44; refine (HN.out _).mono ?_; rintro e w1 ⟨rfl, ⟨nd, rfl⟩⟩) | (go_at_call 45; refine (HP.out _).mono ?_; rintro e w2 ⟨rfl, hb2⟩) | (go_at_call 46; refine (HI.out _).mono ?_; rintro e w3 ⟨rfl, hb3⟩))
  go_ret2
  have b2 := (pw_below_drewN (Below.refl _ w) nd).trans hb2
  exact ⟨rfl, b2.trans (hb3.mono b2.size)⟩

theorem at_no (k : Int) (h : ¬ (1 ≤ k ∧ k ≤ 1000000000000)) (w : World) :
    (Calls Tryd.prog 23 #[.int .i64 k] w fun e w' => e = .returned (.tuple #[.int .i64 0, .bool false]) ∧ Below w.heap.size w w') ∧
    (Calls Tryd.prog 24 #[.int .i64 k] w fun e w' => e = .returned (.tuple #[.int .i64 0, .bool false]) ∧ Below w.heap.size w w') := by
  have HN := Aside0.mk (fun W => l1In_any k 1 1000000000000 W)
  rw [decide_eq_false h] at HN
  have HI := Aside0.mk (fun W => impl_no k h W)
  constructor
  · go_enter Tryd.func23, Tryd.ntmps23
    go_wp2_with (go_at_call 44; refine (HN.out _).mono ?_; rintro e w1 ⟨rfl, ⟨nd, rfl⟩⟩)
    go_ret2
    exact ⟨rfl, pw_below_drewN (Below.refl _ w) nd⟩
  · go_enter Tryd.func24, Tryd.ntmps24
    go_wp2_with (go_at_call 47; refine (HI.out _).mono ?_; rintro e w1 ⟨rfl, hb1⟩)
    go_ret2
    exact ⟨rfl, hb1⟩

theorem DigitAtPlace_over (n v : Int) (b : Bool) (w : World) (hs : ∀ W, Below w.heap.size w W → Calls Tryd.prog 23 #[.int .i64 n] W fun e w' => e = .returned (.tuple #[.int .i64 v, .bool b]) ∧ Below W.heap.size W w') (hi : ∀ W, Below w.heap.size w W → Calls Tryd.prog 24 #[.int .i64 n] W fun e w' => e = .returned (.tuple #[.int .i64 v, .bool b]) ∧ Below W.heap.size W w') :
    Calls Tryd.prog 8 #[.int .i64 n] w fun e w' => e = .returned (.bool true) ∧ Below w.heap.size w w' := by
  have HS := Aside0.mk hs
  have HI := Aside0.mk hi
  clear hs hi
  go_enter Tryd.func8, Tryd.ntmps8
  go_wp2_with (first | (go_at_call 23; refine (HS.out _ (Below.refl _ w)).mono ?_; rintro e w1 ⟨rfl, hb1⟩) | (go_at_call 24; refine (HI.out _ hb1).mono ?_; rintro e w2 ⟨rfl, hb2⟩))
  go_ret
  exact ⟨rfl, hb1.trans (hb2.mono hb1.size)⟩

theorem DigitAtPlace_walk (k : Int) (w : World) (hT : TI w) : Calls Tryd.prog 8 #[.int .i64 k] w fun e w' => e = .returned (.bool true) ∧ Below w.heap.size w w' := by
  by_cases h : 1 ≤ k ∧ k ≤ 1000000000000
  · obtain ⟨r, c⟩ := cut_is k
    obtain ⟨m, i, D⟩ := digit_of h.1 h.2 c
    exact DigitAtPlace_over k _ true w (fun W hb => at_spec k r _ h.1 h.2 c m i D W) (fun W hb => at_impl k r _ h.1 h.2 c m i D W (ti_stays hT hb))
  · exact DigitAtPlace_over k 0 false w (fun W hb => (at_no k h W).1) (fun W hb => (at_no k h W).2)
end Go.Proofs.YtkienapjmgjafaaDoor.HAtPlace
