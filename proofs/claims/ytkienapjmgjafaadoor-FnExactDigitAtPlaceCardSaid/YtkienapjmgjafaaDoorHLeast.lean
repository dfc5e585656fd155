/-
  The search by halves for the least number for which a handed function holds, whatever function it is, as long as it goes on to hold.
-/
import Derived.Test.YtkienapjmgjafaaDoorPrints
import Derived.Test.YtkienapjmgjafaaDoorNum
import Derived.Shelf.Abstract
import Derived.Deep.LoopGhost
namespace Go.Proofs.YtkienapjmgjafaaDoor.HLeast
open Go.RowKit Go.Proofs.YtkienapjmgjafaaDoorW.PrintWords Go.Proofs.YtkienapjmgjafaaDoor.Num

/-- where a function begins to hold, in lo..hi - 1: at hi, if nowhere -/
structure Cut (p : Int → Bool) (lo hi r : Int) : Prop where
  low : lo ≤ r
  high : r ≤ hi
  no : ∀ m, lo ≤ m → m < r → p m = false
  yes : ∀ m, r ≤ m → m < hi → p m = true

theorem Cut.one {p : Int → Bool} {lo hi r q : Int} (a : Cut p lo hi r) (b : Cut p lo hi q) : r = q := by
  by_cases c : r < q
  · have x := a.yes r (by omega) (by have := b.high; omega)
    have y := b.no r a.low c
    rw [x] at y; cases y
  · by_cases d : q < r
    · have x := b.yes q (by omega) (by have := a.high; omega)
      have y := a.no q b.low d
      rw [x] at y; cases y
    · omega

/-- the function, handed in, tells p at each number in lo..hi, in whatever later world; it may draw, and lay memory of its own -/
def Tells (g : Nat) (lb : Array Value) (p : Int → Bool) (lo hi : Int) (w : World) : Prop :=
  ∀ (W : World) (x : Int), Below w.heap.size w W → lo ≤ x → x ≤ hi → Calls Tryd.prog g (#[.int .i64 x] ++ lb) W fun e w' => e = .returned (.bool (p x)) ∧ Below w.heap.size w w'

def Least (p : Int → Bool) (lo hi : Int) (w : World) (e : Ending) (w' : World) : Prop :=
  ∃ r, Cut p lo hi r ∧ e = .returned (.int .i64 r) ∧ Below w.heap.size w w'

set_option maxHeartbeats 1000000 in
theorem least_any (g : Nat) (lb : Array Value) (eg : ∀ args w, (callFunc g args).run Tryd.prog w = .ok (.enter g args) w) (p : Int → Bool) (lo hi : Int) (w : World)
    (b0 : 0 ≤ lo) (b1 : lo ≤ hi + 1) (b2 : hi ≤ 1000000000000) (hp : Tells g lb p lo hi w) (up : ∀ m n, lo ≤ m → m ≤ n → n ≤ hi → p m = true → p n = true) :
    Calls Tryd.prog 50 #[.int .i64 lo, .int .i64 hi, .func (.func g) #[] lb] w (Least p lo (hi + 1) w) := by
  have HP := Aside0.mk hp
  have UP := Aside0.mk up
  clear hp up
  go_enter Tryd.func50, Tryd.ntmps50
  go_wp2
  go_loopg [0, 1, 7] (hi + 1 - lo).toNat (fun gg v0 v1 v7 wr => ∃ l h : Int, v0 = .int .i64 l ∧ v1 = .int .i64 h ∧ lo ≤ l ∧ l ≤ h ∧ h ≤ hi + 1 ∧ h - l ≤ gg ∧ Aside0 (∀ m, lo ≤ m → m < l → p m = false) ∧ Aside0 (∀ m, h ≤ m → m < hi + 1 → p m = true) ∧ Aside0 (Below w.heap.size w wr))
  case atStart => exact ⟨lo, hi + 1, rfl, rfl, by omega, by omega, by omega, by omega, ⟨fun m a b => by omega⟩, ⟨fun m a b => by omega⟩, ⟨Below.refl _ w⟩⟩
  case round =>
    obtain ⟨l, h, rfl, rfl, a1, a2, a3, a4, no, yes, HB⟩ := hrel
    by_cases c : l < h
    · have hcall := HP.out wr ((l + h) / 2) HB.out (by omega) (by omega)
      have m1 : l ≤ (l + h) / 2 := by omega
      have m2 : (l + h) / 2 < h := by omega
      cases hq : p ((l + h) / 2) with
      | true =>
        rw [hq] at hcall
        have HC := Aside0.mk hcall
        have HQ := Aside0.mk hq
        clear hcall hq
        go_wp2_with (go_at_fn g; refine HC.out.mono ?_; rintro e w' ⟨rfl, hb'⟩)
        go_roundg ((l + h) / 2 - l).toNat
        case measure => omega
        case rel => exact ⟨l, (l + h) / 2, rfl, rfl, a1, m1, by omega, by omega, no, ⟨fun m x y => by
          exact UP.out _ m (by omega) x (by omega) HQ.out⟩, ⟨hb'⟩⟩
      | false =>
        rw [hq] at hcall
        have HC := Aside0.mk hcall
        have HQ := Aside0.mk hq
        clear hcall hq
        go_wp2_with (go_at_fn g; refine HC.out.mono ?_; rintro e w' ⟨rfl, hb'⟩)
        go_roundg (h - ((l + h) / 2 + 1)).toNat
        case measure => omega
        case rel => exact ⟨(l + h) / 2 + 1, h, rfl, rfl, by omega, by omega, a3, by omega, ⟨fun m x y => by
          cases z : p m with
          | false => rfl
          | true =>
            have := UP.out m ((l + h) / 2) x (by omega) (by omega) z
            rw [HQ.out] at this; cases this⟩, yes, ⟨hb'⟩⟩
    · have e : h = l := by omega
      subst e
      go_wp2
      go_ret
      exact ⟨h, ⟨a1, a3, no.out, yes.out⟩, rfl, HB.out⟩
end Go.Proofs.YtkienapjmgjafaaDoor.HLeast
