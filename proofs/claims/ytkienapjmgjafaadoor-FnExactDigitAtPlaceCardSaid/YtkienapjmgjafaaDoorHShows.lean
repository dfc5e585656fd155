/-
  CounterShows: the law's walk.
-/
import Derived.Test.YtkienapjmgjafaaDoorHCounter
namespace Go.Proofs.YtkienapjmgjafaaDoor.HSums
open Go.RowKit Go.Proofs.YtkienapjmgjafaaDoorW.PrintWords Go.Proofs.YtkienapjmgjafaaDoorW.PrintLast Go.Proofs.YtkienapjmgjafaaDoorW.PrintMore Go.Proofs.YtkienapjmgjafaaDoor.PNumberOfSum Go.Proofs.YtkienapjmgjafaaDoor.PdiSum Go.Proofs.YtkienapjmgjafaaDoor.PtkOf Go.Proofs.YtkienapjmgjafaaDoor.PtkWays Go.Proofs.YtkienapjmgjafaaDoor.Pl1In Go.Proofs.YtkienapjmgjafaaDoor.PsumOf
open Go.Lib (decDigits)
open Wo HLeast
set_option linter.unusedVariables false
set_option linter.unusedSimpArgs false

theorem B_pow (d : Nat) (hd : d ≤ 9) (j : Nat) : 9 ^ (j + 1) ≤ B d (10 ^ (j + 1)) := by
  induction j with
  | zero =>
    have : d = 0 ∨ d = 1 ∨ d = 2 ∨ d = 3 ∨ d = 4 ∨ d = 5 ∨ d = 6 ∨ d = 7 ∨ d = 8 ∨ d = 9 := by omega
    rw [show 10 ^ (0 + 1) = 10 from rfl, B_big (by omega), show 10 / 10 = 1 from rfl, B_small (by omega)]
    rcases this with rfl | rfl | rfl | rfl | rfl | rfl | rfl | rfl | rfl | rfl <;> simp [less]
  | succ j ih =>
    have p := Nat.pow_pos (n := j + 1) (show 0 < 10 by omega)
    rw [Nat.pow_succ 10 (j + 1), B_big (by omega), Nat.mul_div_cancel _ (by omega), Nat.pow_succ 9 (j + 1)]
    omega

theorem W_top (d : Nat) (hd : d ≤ 9) (T : Nat) (hT : T = 1000000000000) : 1000000 ≤ Wo.W d T := by
  have h := B_pow d hd 11
  have h9 : 9 ^ (11 + 1) = 282429536481 := rfl
  have e : 10 ^ (11 + 1) = T := by rw [hT]
  rw [e, h9] at h
  have bw := B_W hd (T - 1)
  have m := W_mono (d := d) (show T - 1 ≤ T by omega)
  rw [show T - 1 + 1 = T by omega] at bw
  split at bw <;> omega

/-- the count, of whole numbers -/
def pShows (d c : Nat) (x : Int) : Bool := decide (c ≤ Wo.W d x.toNat)

theorem shows_closure (B1 B2 : Nat) (d c : Nat) (hd : d ≤ 9) (w : World) (h1 : B1 < w.heap.size) (h2 : B2 < w.heap.size) (c1 : w.cell? ⟨B1, 0, none⟩ = some (.int .i64 d)) (c2 : w.cell? ⟨B2, 0, none⟩ = some (.int .i64 c)) (hT : TI w) :
    Tells 51 #[.pointer (some ⟨B1, 0, none⟩), .pointer (some ⟨B2, 0, none⟩)] (pShows d c) 1 1000000000000 w := by
  intro W x hb hx0 hx1
  obtain ⟨m, rfl⟩ : ∃ m : Nat, x = m := ⟨x.toNat, by omega⟩
  have k1 : W.cell? ⟨B1, 0, none⟩ = some (.int .i64 d) := (hb.cell (p := ⟨B1, 0, none⟩) h1).trans c1
  have k2 : W.cell? ⟨B2, 0, none⟩ = some (.int .i64 c) := (hb.cell (p := ⟨B2, 0, none⟩) h2).trans c2
  have HW := Aside0.mk (fun W' (hb' : Below W.heap.size W W') => without_any m d (by omega) hd W' (ti_stays (ti_stays hT hb) hb'))
  have HB := Aside0.mk hb
  have q2 : B2 < W.heap.size := Nat.lt_of_lt_of_le h2 HB.out.size
  have q1 : B1 < W.heap.size := Nat.lt_of_lt_of_le h1 HB.out.size
  clear hb c1 c2
  go_enter Tryd.func51, Tryd.ntmps51
  go_wp2
  go_region_with (go_at_call 43; refine (HW.out _ (pw_below_drewN (Below.refl _ W) _)).mono ?_; rintro e w1 ⟨rfl, hb1⟩; have r2 := (hb1.cell (p := ⟨B2, 0, none⟩) (by simpa using q2)).trans k2)
  all_goals
    go_wp2
    go_ret
    refine ⟨?_, HB.out.drew.trans (hb1.mono HB.out.size)⟩
    refine congrArg (fun z : Bool => Ending.returned (Value.bool z)) ?_
    unfold pShows
    (try rw [Int.toNat_natCast]) <;> (try simp)

def Shows (d c : Nat) (w : World) (e : Ending) (w' : World) : Prop :=
  ∃ r, Cut (pShows d c) 1 (1000000000000 + 1) r ∧ e = .returned (.tuple #[.int .i64 r, .bool true]) ∧ Below w.heap.size w w'

theorem pShows_up (d c : Nat) (m n : Int) (h0 : 1 ≤ m) (h1 : m ≤ n) (h : pShows d c m = true) : pShows d c n = true := by
  unfold pShows at h ⊢
  have := W_mono (d := d) (show m.toNat ≤ n.toNat by omega)
  simp only [decide_eq_true_eq] at h ⊢; omega

theorem below_boxes {w w' : World} {o1 o2 : Obj} {n : Nat} (hb : Below (((w.alloc o1).alloc o2).drewN n).heap.size (((w.alloc o1).alloc o2).drewN n) w') : Below w.heap.size w w' := by
  have h1 : Below w.heap.size w (((w.alloc o1).alloc o2).drewN n) := pw_below_drewN (((Below.refl _ w).alloc (Nat.le_refl _) _).alloc (by simp) _) n
  exact h1.trans (hb.mono h1.size)

set_option maxHeartbeats 2000000 in
theorem CounterShows_impl (c d : Nat) (h0 : 1 ≤ c) (h1 : c ≤ 1000000) (hd : d ≤ 9) (w : World) (hT : TI w) :
    Calls Tryd.prog 26 #[.int .i64 c, .int .i64 d] w (Shows d c w) := by
  have HG' := Aside0.mk (fun W => within_any c 1 1000000 W)
  have HD' := Aside0.mk (isDigit_any d)
  rw [decide_eq_true (by omega)] at HG' HD'
  have HL := Aside0.mk (fun (W : World) (hb : Below w.heap.size w W) (h1 : w.heap.size + 1 < W.heap.size) (h2 : w.heap.size < W.heap.size) (c1 : W.cell? ⟨w.heap.size + 1, 0, none⟩ = some (.int .i64 d)) (c2 : W.cell? ⟨w.heap.size, 0, none⟩ = some (.int .i64 c)) =>
    least_any 51 #[.pointer (some ⟨w.heap.size + 1, 0, none⟩), .pointer (some ⟨w.heap.size, 0, none⟩)] (enters_of Tryd.func51 (by kernel_rfl) rfl) (pShows d c) 1 1000000000000 W (by omega) (by omega) (by omega)
      (shows_closure _ _ d c hd W h1 h2 c1 c2 (ti_stays hT hb)) (fun m n a b _ x => pShows_up d c m n a b x))
  have HT2 : ∀ (o1 o2 : Obj) (n : Nat), Below w.heap.size w (((w.alloc o1).alloc o2).drewN n) := fun o1 o2 n => pw_below_drewN (((Below.refl _ w).alloc (Nat.le_refl _) _).alloc (by simp) _) n
  go_enter Tryd.func26, Tryd.ntmps26
  go_wp2_with (first | (go_at_call 49; refine (HG'.out _).mono ?_; rintro e w1 ⟨rfl, ⟨nd, rfl⟩⟩) | (go_at_call 42; refine (HD'.out _).mono ?_; rintro e w1 ⟨rfl, ⟨nd2, rfl⟩⟩) | (go_at_call 50; refine (HL.out _ (HT2 _ _ _) (by first | (simp; done) | (simp; omega)) (by first | (simp; done) | (simp; omega)) (by simp) (by simp)).mono ?_; rintro e w1 ⟨r, hr, rfl, hb⟩; have R := Aside0.mk hr; clear hr))
  go_ret2
  exact ⟨r, R.out, rfl, below_boxes hb⟩

theorem shows_iff {d c : Nat} {r : Int} (R : Cut (pShows d c) 1 (1000000000000 + 1) r) (m : Nat) (m1 : 1 ≤ m) (m2 : m ≤ 1000000000000) : (c ≤ Wo.W d m) ↔ r ≤ m := by
  constructor
  · intro h
    rcases Int.lt_or_le (m : Int) r with g | g
    · have := R.no m (by omega) g
      unfold pShows at this
      simp only [Int.toNat_natCast, decide_eq_false_iff_not] at this
      exact absurd h this
    · exact g
  · intro h
    have := R.yes m h (by omega)
    unfold pShows at this
    simpa using this

set_option maxHeartbeats 2000000 in
theorem CounterShows_spec (c d : Nat) (h0 : 1 ≤ c) (h1 : c ≤ 1000000) (hd : d ≤ 9) (r : Nat) (hr : Cut (pShows d c) 1 (1000000000000 + 1) r) (r1 : 1 ≤ r) (r2 : r ≤ 1000000000000) (w : World) :
    Calls Tryd.prog 25 #[.int .i64 c, .int .i64 d] w fun e w' => e = .returned (.tuple #[.int .i64 r, .bool true]) ∧ Below w.heap.size w w' := by
  have HG := Aside0.mk (fun W => l1In_any c 1 1000000 W)
  have HD := Aside0.mk (diDigit_any d)
  rw [decide_eq_true (by omega)] at HG HD
  have HC := Aside0.mk (fun (m : Nat) (hm : m ≤ 1000000000000) W => diWithout_both m d hm hd W)
  have HR := Aside0.mk (fun m => shows_iff hr m)
  clear hr
  go_enter Tryd.func25, Tryd.ntmps25
  go_wp2_with (first | (go_at_call 44; refine (HG.out _).mono ?_; rintro e w1 ⟨rfl, ⟨nd, rfl⟩⟩) | (go_at_call 40; refine (HD.out _).mono ?_; rintro e w1 ⟨rfl, ⟨nd2, rfl⟩⟩))
  have HB0 : Aside0 (Below w.heap.size w (w.drewN (nd + nd2))) := ⟨pw_below_drewN (Below.refl _ w) _⟩
  go_loopg [6, 7] 1000000000001 (fun gg v6 v7 wr => ∃ l h : Nat, v6 = .int .i64 l ∧ v7 = .int .i64 h ∧ 1 ≤ l ∧ l ≤ r ∧ r ≤ h ∧ h ≤ 1000000000000 ∧ h - l < gg ∧ Aside0 (Below w.heap.size w wr))
  case atStart => exact ⟨1, 1000000000000, rfl, rfl, by omega, by omega, by omega, by omega, by omega, HB0⟩
  case round =>
    obtain ⟨l, h, rfl, rfl, a1, a2, a3, a4, a5, HB⟩ := hrel
    by_cases cc : l < h
    · obtain ⟨m, hm⟩ : ∃ m, m = (l + h) / 2 := ⟨_, rfl⟩
      have m0 : ((l : Int) + h) / 2 = m := by omega
      have m1 : l ≤ m := by omega
      have m2 : m < h := by omega
      have hi := HR.out m (by omega) (by omega)
      have HCC := Aside0.mk (HC.out m (by omega))
      clear hm
      have wl := W_le d m
      by_cases g : c ≤ Wo.W d m
      · have g2 := hi.1 g
        clear hi
        go_wp2_with (go_at_call 41; refine (HCC.out _).mono ?_; rintro e w2 ⟨rfl, hb2⟩)
        go_roundg (h - l)
        case measure => omega
        case rel => exact ⟨l, m, rfl, by first | rfl | rw [m0], a1, a2, by omega, by omega, by omega, ⟨HB.out.trans (hb2.mono HB.out.size)⟩⟩
      · have g2 : ¬ (r : Int) ≤ m := fun x => g (hi.2 x)
        clear hi
        go_wp2_with (go_at_call 41; refine (HCC.out _).mono ?_; rintro e w2 ⟨rfl, hb2⟩)
        go_roundg (h - l)
        case measure => omega
        case rel => exact ⟨m + 1, h, by first | go_num | (rw [m0]; rfl), rfl, by omega, by omega, a3, a4, by omega, ⟨HB.out.trans (hb2.mono HB.out.size)⟩⟩
    · obtain rfl : l = h := by omega
      obtain rfl : r = l := by omega
      go_wp2
      go_ret2
      exact ⟨rfl, HB.out⟩

theorem shows_is (d c : Nat) (hd : d ≤ 9) (h1 : c ≤ 1000000) : ∃ r : Nat, Cut (pShows d c) 1 (1000000000000 + 1) r ∧ 1 ≤ r ∧ r ≤ 1000000000000 := by
  obtain ⟨T, hT⟩ : ∃ T : Nat, T = 1000000000000 := ⟨_, rfl⟩
  have ht := W_top d hd T hT
  have go : ∀ (x lo : Nat), 1 ≤ lo → lo ≤ T → T - lo = x → (∀ m : Nat, 1 ≤ m → m < lo → Wo.W d m < c) → ∃ r : Nat, 1 ≤ r ∧ r ≤ T ∧ (∀ m : Nat, 1 ≤ m → m < r → Wo.W d m < c) ∧ c ≤ Wo.W d r := by
    intro x
    induction x with
    | zero => intro lo a b e n; exact ⟨lo, a, b, n, by rw [show lo = T by omega]; omega⟩
    | succ x ih =>
      intro lo a b e n
      by_cases g : Wo.W d lo < c
      · exact ih (lo + 1) (by omega) (by omega) (by omega) (fun m x y => by
          by_cases e : m = lo
          · rw [e]; exact g
          · exact n m x (by omega))
      · exact ⟨lo, a, b, n, by omega⟩
  obtain ⟨r, r1, r2, r3, r4⟩ := go (T - 1) 1 (by omega) (by omega) rfl (fun m a b => by omega)
  refine ⟨r, ⟨by omega, by omega, fun m a b => ?_, fun m a b => ?_⟩, r1, by omega⟩
  · have := r3 m.toNat (by omega) (by omega)
    unfold pShows
    exact decide_eq_false (by omega)
  · have := W_mono (d := d) (show r ≤ m.toNat by omega)
    unfold pShows
    exact decide_eq_true (by omega)

theorem CounterShows_no (n d : Int) (h : ¬ ((1 ≤ n ∧ n ≤ 1000000) ∧ (0 ≤ d ∧ d ≤ 9))) (w : World) :
    (Calls Tryd.prog 25 #[.int .i64 n, .int .i64 d] w fun e w' => e = .returned (.tuple #[.int .i64 0, .bool false]) ∧ Below w.heap.size w w') ∧
    (Calls Tryd.prog 26 #[.int .i64 n, .int .i64 d] w fun e w' => e = .returned (.tuple #[.int .i64 0, .bool false]) ∧ Below w.heap.size w w') := by
  have HG := Aside0.mk (fun W => l1In_any n 1 1000000 W)
  have HD := Aside0.mk (diDigit_any d)
  have HG' := Aside0.mk (fun W => within_any n 1 1000000 W)
  have HD' := Aside0.mk (isDigit_any d)
  by_cases h1 : 1 ≤ n ∧ n ≤ 1000000
  · rw [decide_eq_true h1] at HG HG'
    rw [decide_eq_false (fun c => h ⟨h1, c⟩)] at HD HD'
    constructor
    · go_enter Tryd.func25, Tryd.ntmps25
      go_wp2_with (first | (go_at_call 44; refine (HG.out _).mono ?_; rintro e w1 ⟨rfl, ⟨nd, rfl⟩⟩) | (go_at_call 40; refine (HD.out _).mono ?_; rintro e w1 ⟨rfl, ⟨nd2, rfl⟩⟩))
      go_ret2
      exact ⟨rfl, pw_below_drewN (Below.refl _ w) _⟩
    · go_enter Tryd.func26, Tryd.ntmps26
      go_wp2_with (first | (go_at_call 49; refine (HG'.out _).mono ?_; rintro e w1 ⟨rfl, ⟨nd, rfl⟩⟩) | (go_at_call 42; refine (HD'.out _).mono ?_; rintro e w1 ⟨rfl, ⟨nd2, rfl⟩⟩))
      go_ret2
      exact ⟨rfl, pw_below_drewN (((Below.refl _ w).alloc (Nat.le_refl _) _).alloc (by simp) _) _⟩
  · rw [decide_eq_false h1] at HG HG'
    constructor
    · go_enter Tryd.func25, Tryd.ntmps25
      go_wp2_with (go_at_call 44; refine (HG.out _).mono ?_; rintro e w1 ⟨rfl, ⟨nd, rfl⟩⟩)
      go_ret2
      exact ⟨rfl, pw_below_drewN (Below.refl _ w) _⟩
    · go_enter Tryd.func26, Tryd.ntmps26
      go_wp2_with (go_at_call 49; refine (HG'.out _).mono ?_; rintro e w1 ⟨rfl, ⟨nd, rfl⟩⟩)
      go_ret2
      exact ⟨rfl, pw_below_drewN (((Below.refl _ w).alloc (Nat.le_refl _) _).alloc (by simp) _) _⟩

theorem CounterShows_walk (n d : Int) (w : World) (hT : TI w) : Calls Tryd.prog 9 #[.int .i64 n, .int .i64 d] w fun e w' => e = .returned (.bool true) ∧ Below w.heap.size w w' := by
  by_cases h : (1 ≤ n ∧ n ≤ 1000000) ∧ (0 ≤ d ∧ d ≤ 9)
  · obtain ⟨m, rfl⟩ : ∃ m : Nat, n = m := ⟨n.toNat, by omega⟩
    obtain ⟨x, rfl⟩ : ∃ x : Nat, d = x := ⟨d.toNat, by omega⟩
    obtain ⟨r, R, r1, r2⟩ := shows_is x m (by omega) (by omega)
    refine CounterShows_over' m x r true w (fun W hb => CounterShows_spec m x (by omega) (by omega) (by omega) r R r1 r2 W) (fun W hb => ?_)
    refine (CounterShows_impl m x (by omega) (by omega) (by omega) W (ti_stays hT hb)).mono ?_
    rintro e w' ⟨q, hq, he, hb'⟩
    exact ⟨by rw [he, R.one hq], hb'⟩
  · exact CounterShows_over' n d 0 false w (fun W hb => (CounterShows_no n d h W).1) (fun W hb => (CounterShows_no n d h W).2)
end Go.Proofs.YtkienapjmgjafaaDoor.HSums
