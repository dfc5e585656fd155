/-
  Several texts in one: HSort1 HSort2 HSort3 HSort4 HSort5 HSort6 HSort7 HSort8 HSort9.
-/
import Derived.Test.YtoieadofldkccaaDoorWMore
import Derived.Test.YtoieadofldkccaaDoorProg
import Derived.WalkKit
import Derived.RegionTactic
import Derived.CellFam
import Derived.BigGuard
import Derived.BigCall
import Derived.Deep.LoopGhost
import Derived.Deep.Draws
import Derived.Deep.QuietTactic
import Derived.BigQuiet
import Derived.Sort.AssemblyPlain
import Derived.Shelf.SlSortCmp.Kit1
import Derived.Test.YtoieadofldkccaaDoorShelf
import Derived.Laws.Bits64
import Derived.Laws.Bits64b
import Derived.Lib.SlicesCompact
import Derived.Lib.SliceRun
namespace Go.Proofs.YtoieadofldkccaaDoor.Bytes
open Go.RowKit Go.Sort Go.Proofs Go.Proofs.YtoieadofldkccaaDoorW.PrintWords Go.Proofs.YtoieadofldkccaaDoorW.PrintLast Go.Proofs.YtoieadofldkccaaDoorW.PrintMore
set_option linter.unusedVariables false
set_option linter.unusedSimpArgs false

abbrev encB (c : UInt8) : Value := .int .u8 (c.toNat : Int)
def ltB (x y : UInt8) : Bool := decide (x.toNat < y.toNat)
theorem swoB : SWO ltB where
  irrefl x := by unfold ltB; exact decide_eq_false (by omega)
  trans x y z h1 h2 := by unfold ltB at *; rw [decide_eq_true_iff] at *; omega
  ntrans x y z h1 h2 := by unfold ltB at *; rw [decide_eq_false_iff_not] at *; omega
theorem ltB_true {x y : UInt8} : ltB x y = true ↔ x.toNat < y.toNat := by unfold ltB; exact decide_eq_true_iff
theorem ltB_false {x y : UInt8} : ltB x y = false ↔ ¬ x.toNat < y.toNat := by unfold ltB; exact decide_eq_false_iff_not

/-- a world of the sort's: block blk holds d, all else of w0 is as it was -/
structure SB (w0 : World) (blk : Nat) (d : Array UInt8) (W : World) : Prop where
  sw : SW encB w0 blk 0 d W
theorem SB.drewN {w0 W : World} {blk : Nat} {d : Array UInt8} (h : SB w0 blk d W) (n : Nat) : SB w0 blk d (W.drewN n) := ⟨SW.drewN h.sw n⟩
theorem SB.alloc {w0 W : World} {blk : Nat} {d : Array UInt8} (h : SB w0 blk d W) (o : Obj) : SB w0 blk d (W.alloc o) := ⟨SW.alloc h.sw o⟩
theorem SB.setNew {w0 W : World} {blk : Nat} {d : Array UInt8} (h : SB w0 blk d W) (b o : Nat) (v : Value) (hb : w0.heap.size ≤ b) : SB w0 blk d (W.setCell ⟨b, o, none⟩ v) := ⟨SW.setCell_new h.sw b o v hb⟩
/-- the row that is sorted, N bytes -/
def Base (w0 : World) (blk N : Nat) : Prop := ∃ d0 : Array UInt8, Row1 encB w0 blk 0 d0 ∧ d0.size = N
theorem Base.cell {w0 W : World} {blk N : Nat} {d : Array UInt8} (h : Base w0 blk N) (s : SB w0 blk d W) (hd : d.size = N) (t : Nat) (ht : t < N) : W.cell? ⟨blk, t, none⟩ = some (.int .u8 (d[t]!.toNat : Int)) := by
  obtain ⟨d0, R, e⟩ := h
  have := SW.c1 s.sw R (by omega) t (by omega)
  rwa [Nat.zero_add] at this
theorem Base.frozen {w0 W : World} {blk N : Nat} {d : Array UInt8} (h : Base w0 blk N) (s : SB w0 blk d W) (hd : d.size = N) (t : Nat) (ht : t < N) : W.frozen? ⟨blk, t, none⟩ = false := by
  obtain ⟨d0, R, e⟩ := h
  have := SW.f1 s.sw R (by omega) t (by omega)
  rwa [Nat.zero_add] at this
theorem Base.swap {w0 W : World} {blk N : Nat} {d : Array UInt8} (h : Base w0 blk N) (s : SB w0 blk d W) (i j : Nat) (hi : i < d.size) (hj : j < d.size) :
    SB w0 blk (swp d i j) ((W.setCell ⟨blk, i, none⟩ (.int .u8 (d[j]!.toNat : Int))).setCell ⟨blk, j, none⟩ (.int .u8 (d[i]!.toNat : Int))) := by
  obtain ⟨d0, R, e⟩ := h
  have := SW.swap s.sw R.hblk i j hi hj
  rw [Nat.zero_add, Nat.zero_add] at this
  exact ⟨this⟩

theorem isNaN_any (x : Int) (w : World) : Calls Tryd.prog 136 #[.int .u8 x] w fun e w' => e = .returned (.bool false) ∧ w' = w := by
  go_enter Tryd.func136, Tryd.ntmps136
  go_wp2
  go_ret
  exact ⟨by simp, rfl⟩
theorem less_any (x y : Int) (w : World) : Calls Tryd.prog 120 #[.int .u8 x, .int .u8 y] w fun e w' => e = .returned (.bool (decide (x < y))) ∧ w' = w := by
  go_enter Tryd.func120, Tryd.ntmps120
  go_wp2_with (go_at_call 136; refine (isNaN_any _ _).mono ?_; rintro e w' ⟨rfl, rfl⟩)
  go_ret
  exact ⟨rfl, rfl⟩

theorem less_yes (x y : Nat) (h : x < y) (w : World) : Calls Tryd.prog 120 #[.int .u8 x, .int .u8 y] w fun e w' => e = .returned (.bool true) ∧ w' = w := by
  have := less_any x y w
  rwa [decide_eq_true (by omega)] at this
theorem less_no (x y : Nat) (h : ¬ x < y) (w : World) : Calls Tryd.prog 120 #[.int .u8 x, .int .u8 y] w fun e w' => e = .returned (.bool false) ∧ w' = w := by
  have := less_any x y w
  rwa [decide_eq_false (by omega)] at this

set_option maxRecDepth 100000 in
set_option maxHeartbeats 8000000 in
theorem insertion_any {w0 : World} {blk N : Nat} (R : Base w0 blk N) (hN : N ≤ 4000000) (cap a b : Nat) (d : Array UInt8) (hd : d.size = N) (hab : a ≤ b) (hb : b ≤ N) (w : World) (S : SB w0 blk d w) :
    Calls Tryd.prog 114 #[.slice (some ⟨blk, 0, none⟩) N cap, .int .i64 a, .int .i64 b] w fun e w' => e = .returned (.tuple #[]) ∧ SB w0 blk (insertionSort ltB d a b) w' := by
  have HR := Aside0.mk R
  have HS := Aside0.mk S
  clear R S
  go_enter Tryd.func114, Tryd.ntmps114
  go_wp2
  go_loopg [6] (b + 2) (fun gg v6 wr => ∃ (i : Nat) (dk : Array UInt8), v6 = .int .i64 i ∧ a < i ∧ i ≤ b + 1 ∧ b + 1 - i < gg ∧ Aside0 (dk.size = N) ∧ Aside0 (SB w0 blk dk wr) ∧ Aside0 (insOuter ltB a b i dk = insOuter ltB a b (a + 1) d))
  case atStart => exact ⟨a + 1, d, by first | rfl | go_num, by omega, by omega, by omega, ⟨hd⟩, HS, ⟨rfl⟩⟩
  case round =>
    rename World => V1
    obtain ⟨i, dk, rfl, i1, i2, i3, HD, HK, HO⟩ := hrel
    by_cases hi : i < b
    · go_wp2
      go_loopg [7] (i + 1) (fun gg v7 wr => ∃ (j : Nat) (dj : Array UInt8), v7 = .int .i64 j ∧ a ≤ j ∧ j ≤ i ∧ j < gg ∧ Aside0 (dj.size = N) ∧ Aside0 (SB w0 blk dj wr) ∧ Aside0 (insInner ltB a j dj = insInner ltB a i dk))
      case atStart => exact ⟨i, dk, rfl, by omega, by omega, by omega, HD, HK, ⟨rfl⟩⟩
      case round =>
        rename World => V2
        obtain ⟨j, dj, rfl, j1, j2, j3, HDJ, HJ, HI⟩ := hrel
        have OUT : Aside0 ((j ≤ a ∨ ltB dj[j]! dj[j - 1]! = false) → insOuter ltB a b (i + 1) dj = insOuter ltB a b (a + 1) d) := ⟨fun hs => by rw [← HO.out, insOuter_go _ _ _ _ _ hi, ← HI.out, insInner_stop _ _ _ _ hs]⟩
        obtain ⟨G, hG⟩ : ∃ G : Nat → Nat, ∀ t, G t = dj[t]!.toNat := ⟨fun t => dj[t]!.toNat, fun _ => rfl⟩
        have hcw : ∀ t, t < N → V2.cell? ⟨blk, t, none⟩ = some (.int .u8 (G t : Int)) := fun t ht => by rw [hG]; exact HR.out.cell HJ.out HDJ.out t ht
        have hfw : ∀ t, t < N → V2.frozen? ⟨blk, t, none⟩ = false := fun t ht => HR.out.frozen HJ.out HDJ.out t ht
        have HG := Aside0.mk hG
        clear hG
        by_cases hja : a < j
        · obtain ⟨q, rfl⟩ : ∃ q, j = q + 1 := ⟨j - 1, by omega⟩
          rw [Nat.add_sub_cancel] at OUT
          have hjaz : (a : Int) < (q : Int) + 1 := by omega
          have hq1 : q + 1 < N := by omega
          have hq0 : q < N := by omega
          have eq1 : ((q : Int) + 1).toNat = q + 1 := by omega
          have hc1 := hcw (q + 1) hq1
          have hc0 := hcw q hq0
          have hf1 := hfw (q + 1) hq1
          have hf0 := hfw q hq0
          clear hcw hfw
          by_cases hl : G (q + 1) < G q
          · have hL : Aside0 (ltB dj[q + 1]! dj[q]! = true) := ⟨by rw [ltB_true, ← HG.out, ← HG.out]; exact hl⟩
            have HSW := Aside0.mk (fun n => HR.out.swap (HJ.out.drewN n) (q + 1) q (by rw [HDJ.out]; exact hq1) (by rw [HDJ.out]; exact hq0))
            rw [← HG.out (q + 1), ← HG.out q] at HSW
            generalize G (q + 1) = x1 at hc1 hl HSW
            generalize G q = x0 at hc0 hl HSW
            have hlz : ((x1 : Int) < (x0 : Int)) = True := by simp; omega
            clear hl
            go_wp2
            go_quiet (first | (go_at_call 120; refine Calls.quiet_of_same (less_any _ _ _)))
            go_wp2
            go_region
            all_goals go_wp2
            go_roundg (q + 1)
            case measure => omega
            case rel => exact ⟨q, swp dj (q + 1) q, by first | rfl | go_num, by omega, by omega, by omega, ⟨by rw [size_swp]; exact HDJ.out⟩, ⟨HSW.out _⟩, ⟨by rw [← HI.out, insInner_go ltB a (q + 1) dj hja hL.out]; rfl⟩⟩
          · have hL : Aside0 (ltB dj[q + 1]! dj[q]! = false) := ⟨by rw [ltB_false, ← HG.out, ← HG.out]; exact hl⟩
            generalize G (q + 1) = x1 at hc1 hl
            generalize G q = x0 at hc0 hl
            have hlz : ((x1 : Int) < (x0 : Int)) = False := by simp; omega
            clear hl
            go_wp2
            go_quiet (first | (go_at_call 120; refine Calls.quiet_of_same (less_any _ _ _)))
            go_wp2
            go_roundg (b + 1 - i)
            case measure => omega
            case rel => exact ⟨i + 1, dj, by first | rfl | go_num, by omega, by omega, by omega, HDJ, ⟨HJ.out.drewN _⟩, ⟨OUT.out (.inr hL.out)⟩⟩
        · have hjaz : ¬ (a : Int) < (j : Int) := by omega
          go_wp2
          go_quiet (first | (go_at_call 120; refine Calls.quiet_of_same (less_any _ _ _)))
          go_wp2
          go_roundg (b + 1 - i)
          case measure => omega
          case rel => exact ⟨i + 1, dj, by first | rfl | go_num, by omega, by omega, by omega, HDJ, ⟨HJ.out.drewN _⟩, ⟨OUT.out (.inl (by omega))⟩⟩
    · go_wp2
      go_end0
      exact ⟨rfl, by have := HK.out; unfold insertionSort; rw [← HO.out, insOuter_stop _ _ _ _ _ hi]; exact this⟩
end Go.Proofs.YtoieadofldkccaaDoor.Bytes
namespace Go.Proofs.YtoieadofldkccaaDoor.Bytes
open Go.RowKit Go.Sort Go.Proofs Go.Proofs.YtoieadofldkccaaDoorW.PrintWords Go.Proofs.YtoieadofldkccaaDoorW.PrintLast Go.Proofs.YtoieadofldkccaaDoorW.PrintMore
set_option linter.unusedVariables false
set_option linter.unusedSimpArgs false

/-- block c, new against w0, holds the count of exchanges -/
structure Cnt (w0 : World) (blk : Nat) (d : Array UInt8) (c s : Nat) (W : World) : Prop where
  sb : SB w0 blk d W
  cell : W.cell? ⟨c, 0, none⟩ = some (.int .i64 s)
  fr : W.frozen? ⟨c, 0, none⟩ = false
  new : w0.heap.size ≤ c
theorem Cnt.drewN {w0 W : World} {blk c s : Nat} {d : Array UInt8} (h : Cnt w0 blk d c s W) (n : Nat) : Cnt w0 blk d c s (W.drewN n) := ⟨h.sb.drewN n, h.cell, h.fr, h.new⟩
theorem Cnt.bump {w0 W : World} {blk c s : Nat} {d : Array UInt8} (h : Cnt w0 blk d c s W) (t : Nat) : Cnt w0 blk d c t (W.setCell ⟨c, 0, none⟩ (.int .i64 t)) :=
  ⟨h.sb.setNew c 0 _ h.new, World.cell?_setCell_same _ _ _ h.cell, by rw [World.frozen?_setCell]; exact h.fr, h.new⟩
theorem Cnt.start {w0 W : World} {blk : Nat} {d : Array UInt8} (h : SB w0 blk d W) (t : TypeId) : Cnt w0 blk d W.heap.size 0 (W.alloc (.cells #[.int .i64 0] t)) :=
  ⟨h.alloc _, by simp, by simp, SW.le h.sw⟩

def Ord2 (w0 : World) (blk N : Nat) (d : Array UInt8) (c : Nat) (a b s : Nat) (e : Ending) (w' : World) : Prop :=
  ∃ x y s' : Nat, e = .returned (.tuple #[.int .i64 x, .int .i64 y]) ∧ ((x = a ∧ y = b) ∨ (x = b ∧ y = a)) ∧ s ≤ s' ∧ s' ≤ s + 1 ∧ Aside0 (Cnt w0 blk d c s' w')

set_option maxRecDepth 100000 in
set_option maxHeartbeats 1000000 in
theorem order2_any {w0 : World} {blk N : Nat} (R : Base w0 blk N) (hN : N ≤ 4000000) (cap a b c s : Nat) (d : Array UInt8) (hd : d.size = N) (ha : a < N) (hb : b < N) (hs : s ≤ 1000) (w : World) (C : Cnt w0 blk d c s w) :
    Calls Tryd.prog 138 #[.slice (some ⟨blk, 0, none⟩) N cap, .int .i64 a, .int .i64 b, .pointer (some ⟨c, 0, none⟩)] w (Ord2 w0 blk N d c a b s) := by
  have hca := R.cell C.sb hd a ha
  have hcb := R.cell C.sb hd b hb
  have hcc := C.cell
  have hcf := C.fr
  have HC := Aside0.mk C
  clear C R
  generalize d[a]!.toNat = x at hca
  generalize d[b]!.toNat = y at hcb
  by_cases hl : y < x
  · have HLS := Aside0.mk (fun W => less_yes y x hl W)
    clear hl
    have HB := Aside0.mk (fun n => (HC.out.drewN n).bump (s + 1))
    go_enter Tryd.func138, Tryd.ntmps138
    go_wp2
    go_quiet (first | (go_at_call 120; refine Calls.quiet_of_same (HLS.out _)))
    go_wp2
    refine bodyPost_ret (results_tmp2 rfl _ _ _) rfl ?_
    exact ⟨b, a, s + 1, rfl, .inr ⟨rfl, rfl⟩, by omega, by omega, ⟨HB.out _⟩⟩
  · have HLS := Aside0.mk (fun W => less_no y x hl W)
    clear hl
    go_enter Tryd.func138, Tryd.ntmps138
    go_wp2
    go_quiet (first | (go_at_call 120; refine Calls.quiet_of_same (HLS.out _)))
    go_wp2
    refine bodyPost_ret (results_tmp2 rfl _ _ _) rfl ?_
    exact ⟨a, b, s, rfl, .inl ⟨rfl, rfl⟩, by omega, by omega, ⟨HC.out.drewN _⟩⟩

def Med (w0 : World) (blk N : Nat) (d : Array UInt8) (c : Nat) (i j k s : Nat) (e : Ending) (w' : World) : Prop :=
  ∃ m s' : Nat, e = .returned (.int .i64 m) ∧ (m = i ∨ m = j ∨ m = k) ∧ s' ≤ s + 3 ∧ Aside0 (Cnt w0 blk d c s' w')

set_option maxRecDepth 100000 in
set_option maxHeartbeats 1000000 in
theorem median_any {w0 : World} {blk N : Nat} (R : Base w0 blk N) (hN : N ≤ 4000000) (cap i j k c s : Nat) (d : Array UInt8) (hd : d.size = N) (hi : i < N) (hj : j < N) (hk : k < N) (hs : s ≤ 900) (w : World) (C : Cnt w0 blk d c s w) :
    Calls Tryd.prog 135 #[.slice (some ⟨blk, 0, none⟩) N cap, .int .i64 i, .int .i64 j, .int .i64 k, .pointer (some ⟨c, 0, none⟩)] w (Med w0 blk N d c i j k s) := by
  have HO := Aside0.mk (fun (a b s : Nat) (ha : a < N) (hb : b < N) (hs : s ≤ 1000) W (C : Cnt w0 blk d c s W) => order2_any R hN cap a b c s d hd ha hb hs W C)
  unfold Ord2 at HO
  have HC := Aside0.mk C
  clear C R
  go_enter Tryd.func135, Tryd.ntmps135
  go_wp2_with (first | (go_at_call 138; refine (HO.out _ _ _ l1 l3 (by omega) _ HC2.out).mono ?_; rintro e w3 ⟨x3, y3, s3, rfl, o3, g5, g6, HC3⟩) | (go_at_call 138; refine (HO.out _ _ _ l2 hk (by omega) _ HC1.out).mono ?_; rintro e w2 ⟨x2, y2, s2, rfl, o2, g3, g4, HC2⟩; have l3 : x2 < N := (by omega)) | (go_at_call 138; refine (HO.out _ _ _ hi hj (by omega) _ HC.out).mono ?_; rintro e w1 ⟨x1, y1, s1, rfl, o1, g1, g2, HC1⟩; have l1 : x1 < N := (by omega); have l2 : y1 < N := (by omega)))
  go_ret
  exact ⟨y3, s3, rfl, by omega, by omega, HC3⟩

def Piv (w0 : World) (blk : Nat) (d : Array UInt8) (a b : Nat) (e : Ending) (w' : World) : Prop :=
  ∃ (m : Nat) (h : Int), e = .returned (.tuple #[.int .i64 m, .int .i64 h]) ∧ a ≤ m ∧ m < b ∧ (h = 0 ∨ h = 1) ∧ Aside0 (SB w0 blk d w')

set_option maxRecDepth 100000 in
set_option maxHeartbeats 1000000 in
theorem pivot_any {w0 : World} {blk N : Nat} (R : Base w0 blk N) (hN : N ≤ 4000000) (cap a b : Nat) (d : Array UInt8) (hd : d.size = N) (hb : b ≤ N) (h12 : a + 12 < b) (h50 : b < a + 50) (w : World) (S : SB w0 blk d w) :
    Calls Tryd.prog 117 #[.slice (some ⟨blk, 0, none⟩) N cap, .int .i64 a, .int .i64 b] w (Piv w0 blk d a b) := by
  have HME := Aside0.mk (fun (i j k c : Nat) (hi : i < N) (hj : j < N) (hk : k < N) W (C : Cnt w0 blk d c 0 W) => median_any R hN cap i j k c 0 d hd hi hj hk (by omega) W C)
  have HC := Aside0.mk (Cnt.start S 3)
  clear S R
  obtain ⟨q, hq⟩ : ∃ q, q = (b - a) / 4 := ⟨_, rfl⟩
  have eq0 : ((b : Int) - a) / 4 = (q : Int) := by rw [hq]; omega
  have hq3 : q * 3 < b - a := by omega
  have HM1 : Aside0 (∀ (c : Nat) W (C : Cnt w0 blk d c 0 W), Calls Tryd.prog 135 #[.slice (some ⟨blk, 0, none⟩) N cap, .int .i64 ((a : Int) + q), .int .i64 ((a : Int) + q * 2), .int .i64 ((a : Int) + q * 3), .pointer (some ⟨c, 0, none⟩)] W (Med w0 blk N d c (a + q) (a + q * 2) (a + q * 3) 0)) := ⟨fun c W C => HME.out (a + q) (a + q * 2) (a + q * 3) c (by omega) (by omega) (by omega) W C⟩
  unfold Med at HM1
  clear HME hq
  go_enter Tryd.func117, Tryd.ntmps117
  go_wp2_with (go_at_call 135; refine (HM1.out _ _ HC.out).mono ?_; rintro e w1 ⟨m, s1, rfl, hm, hs, HC1⟩; have hcc := HC1.out.cell; have hab : a ≤ m ∧ m < b := (by omega); have h12 : ((s1 : Int) == 12) = false := (by rw [beq_eq_false_iff_ne]; omega); clear hm)
  all_goals
    refine bodyPost_ret (results_tmp2 rfl _ _ _) rfl ?_
  · exact ⟨m, 1, rfl, hab.1, hab.2, .inr rfl, ⟨HC1.out.sb⟩⟩
  · exact ⟨m, 0, rfl, hab.1, hab.2, .inl rfl, ⟨HC1.out.sb⟩⟩
end Go.Proofs.YtoieadofldkccaaDoor.Bytes
namespace Go.Proofs.YtoieadofldkccaaDoor.Bytes
open Go.RowKit Go.Sort Go.Proofs Go.Proofs.YtoieadofldkccaaDoorW.PrintWords Go.Proofs.YtoieadofldkccaaDoorW.PrintLast Go.Proofs.YtoieadofldkccaaDoorW.PrintMore
set_option linter.unusedVariables false
set_option linter.unusedSimpArgs false

theorem sorted_steps {d : Array UInt8} {a b : Nat} (h : ∀ x, a + 1 ≤ x → x < b → ltB d[x]! d[x - 1]! = false) : SortedIn ltB a b d := by
  have key : ∀ k i, a ≤ i → i + k < b → d[i]!.toNat ≤ d[i + k]!.toNat := by
    intro k
    induction k with
    | zero => intro i _ _; exact Nat.le_refl _
    | succ k ih =>
      intro i h1 h2
      have h3 := ih i h1 (by omega)
      have h4 := h (i + k + 1) (by omega) (by omega)
      rw [ltB_false, Nat.add_sub_cancel] at h4
      rw [show i + (k + 1) = i + k + 1 from rfl]
      omega
  intro i j h1 h2 h3
  have := key (j - i) i h1 (by omega)
  rw [show i + (j - i) = j by omega] at this
  rw [ltB_false]; omega

set_option maxRecDepth 100000 in
set_option maxHeartbeats 2000000 in
theorem partialIns_any {w0 : World} {blk N : Nat} (R : Base w0 blk N) (hN : N ≤ 4000000) (cap a b : Nat) (d : Array UInt8) (hd : d.size = N) (hb : b ≤ N) (hab : a < b) (h50 : b < a + 50) (w : World) (S : SB w0 blk d w) :
    Calls Tryd.prog 119 #[.slice (some ⟨blk, 0, none⟩) N cap, .int .i64 a, .int .i64 b] w fun e w' => ∃ r : Bool, e = .returned (.bool r) ∧ Aside0 (r = true → SortedIn ltB a b d) ∧ Aside0 (SB w0 blk d w') := by
  have HR := Aside0.mk R
  have HS := Aside0.mk S
  clear R S
  obtain ⟨G, hG⟩ : ∃ G : Nat → Nat, ∀ t, G t = d[t]!.toNat := ⟨fun t => d[t]!.toNat, fun _ => rfl⟩
  have HG := Aside0.mk hG
  clear hG
  have h5z : ((b : Int) - a < 50) = True := by simp; omega
  go_enter Tryd.func119, Tryd.ntmps119
  go_wp2
  go_loopg [7, 8] 1 (fun gg v7 v8 wr => v7 = .int .i64 ((a : Int) + 1) ∧ v8 = .int .i64 0 ∧ Aside0 (SB w0 blk d wr))
  case atStart => exact ⟨rfl, rfl, HS⟩
  case round =>
    rename World => V1
    obtain ⟨rfl, rfl, HV⟩ := hrel
    go_wp2
    go_loopg [7] (b + 1) (fun gg v7 wr => ∃ i : Nat, v7 = .int .i64 i ∧ a + 1 ≤ i ∧ i ≤ b ∧ b - i < gg ∧ Aside0 (∀ x, a + 1 ≤ x → x < i → ltB d[x]! d[x - 1]! = false) ∧ Aside0 (SB w0 blk d wr))
    case atStart => exact ⟨a + 1, rfl, by omega, by omega, by omega, ⟨fun x h1 h2 => by omega⟩, HV⟩
    case round =>
      rename World => V2
      obtain ⟨i, rfl, i1, i2, i3, HN, HV2⟩ := hrel
      by_cases hi : i < b
      · obtain ⟨q, rfl⟩ : ∃ q, i = q + 1 := ⟨i - 1, by omega⟩
        have hib : ((q : Int) + 1 < b) = True := by simp; omega
        have hq1 : q + 1 < N := by omega
        have hq0 : q < N := by omega
        have eq1 : ((q : Int) + 1).toNat = q + 1 := by omega
        have hc1 := HR.out.cell HV2.out hd (q + 1) hq1
        have hc0 := HR.out.cell HV2.out hd q hq0
        rw [← HG.out] at hc1 hc0
        by_cases hl : G (q + 1) < G q
        · have HLS := Aside0.mk (fun W => less_yes _ _ hl W)
          generalize G (q + 1) = x1 at hc1 HLS
          generalize G q = x0 at hc0 HLS
          clear hl
          go_wp2
          go_quiet (first | (go_at_call 120; refine Calls.quiet_of_same (HLS.out _)))
          go_wp2
          go_ret
          exact ⟨false, rfl, ⟨fun h => by cases h⟩, ⟨HV2.out.drewN _⟩⟩
        · have HLS := Aside0.mk (fun W => less_no _ _ hl W)
          have HN2 : Aside0 (∀ x, a + 1 ≤ x → x < q + 1 + 1 → ltB d[x]! d[x - 1]! = false) := ⟨fun x h1 h2 => by
            by_cases e : x = q + 1
            · subst e; rw [ltB_false, Nat.add_sub_cancel, ← HG.out, ← HG.out]; exact hl
            · exact HN.out x h1 (by omega)⟩
          generalize G (q + 1) = x1 at hc1 HLS
          generalize G q = x0 at hc0 HLS
          clear hl
          go_wp2
          go_quiet (first | (go_at_call 120; refine Calls.quiet_of_same (HLS.out _)))
          go_wp2
          go_roundg (b - (q + 1))
          case measure => omega
          case rel => exact ⟨q + 1 + 1, by first | rfl | go_num, by omega, by omega, by omega, HN2, ⟨HV2.out.drewN _⟩⟩
      · obtain rfl : i = b := by omega
        go_wp2
        go_quiet (first | (go_at_call 120; refine Calls.quiet_of_same (less_any _ _ _)))
        go_wp2
        go_ret
        exact ⟨true, rfl, ⟨fun _ => sorted_steps HN.out⟩, ⟨HV2.out.drewN _⟩⟩
end Go.Proofs.YtoieadofldkccaaDoor.Bytes
namespace Go.Proofs.YtoieadofldkccaaDoor.Bytes
open Go.RowKit Go.Sort Go.Proofs Go.Proofs.YtoieadofldkccaaDoorW.PrintWords Go.Proofs.YtoieadofldkccaaDoorW.PrintLast Go.Proofs.YtoieadofldkccaaDoorW.PrintMore
set_option linter.unusedVariables false
set_option linter.unusedSimpArgs false

theorem Base.cell2 {w0 W : World} {blk N : Nat} {d : Array UInt8} (h : Base w0 blk N) (s : SB w0 blk d W) (hd : d.size = N) (i j : Nat) (hi : i < N) (hj : j < N) (v : Value) : ∃ u, (W.setCell ⟨blk, i, none⟩ v).cell? ⟨blk, j, none⟩ = some u := by
  obtain ⟨d0, R, e⟩ := h
  have := SW.c2 s.sw R (by omega) i j (by omega) (by omega) v
  rwa [Nat.zero_add, Nat.zero_add] at this

theorem perm_swap {d dk : Array UInt8} {a b i j : Nat} (h : PermIn a b d dk) (hb : b ≤ d.size) (h1 : a ≤ i) (h2 : i < b) (h3 : a ≤ j) (h4 : j < b) : PermIn a b d (swp dk i j) :=
  permIn_trans _ _ _ _ _ h (swp_permIn dk a b i j h1 h2 h3 h4 (by rw [h.1]; exact hb))
theorem swp_at (d : Array UInt8) (i j k : Nat) (hi : i < d.size) (hj : j < d.size) : (swp d i j)[k]! = if k = i then d[j]! else if k = j then d[i]! else d[k]! := by
  by_cases e : i = j
  · subst e
    by_cases e2 : k = i
    · subst e2; rw [if_pos rfl, swp_right _ _ _ hi]
    · rw [if_neg e2, if_neg e2, swp_other _ _ _ _ e2 e2]
  · by_cases e2 : k = i
    · subst e2; rw [if_pos rfl, swp_left _ _ _ hi e]
    · rw [if_neg e2]
      by_cases e3 : k = j
      · subst e3; rw [if_pos rfl, swp_right _ _ _ hj]
      · rw [if_neg e3, swp_other _ _ _ _ e2 e3]

/-- what lies below i (from a + 1) is less than P; what lies above j is not -/
abbrev Lows (d : Array UInt8) (a i P : Nat) : Prop := ∀ x, a + 1 ≤ x → x < i → d[x]!.toNat < P
abbrev Highs (d : Array UInt8) (b j P : Nat) : Prop := ∀ x, j < x → x < b → ¬ d[x]!.toNat < P

/-- what partitionOrdered leaves -/
def Part (w0 : World) (blk : Nat) (d : Array UInt8) (a b : Nat) (e : Ending) (w' : World) : Prop :=
  ∃ (m : Nat) (r : Bool) (d' : Array UInt8), e = .returned (.tuple #[.int .i64 m, .bool r]) ∧ a ≤ m ∧ m < b ∧ Aside0 (PermIn a b d d') ∧ Aside0 (∀ x, a ≤ x → x < m → d'[x]!.toNat < d'[m]!.toNat) ∧ Aside0 (∀ x, m < x → x < b → ¬ d'[x]!.toNat < d'[m]!.toNat) ∧ Aside0 (SB w0 blk d' w')

/-- the pivot goes to its place -/
theorem part_end {d dk : Array UInt8} {a b i j P : Nat} (hp : PermIn a b d dk) (hbd : b ≤ d.size) (ha : dk[a]!.toNat = P) (hl : Lows dk a i P) (hh : Highs dk b j P) (hji : j < i) (haj : a ≤ j) (hjb : j < b) :
    PermIn a b d (swp dk j a) ∧ (∀ x, a ≤ x → x < j → (swp dk j a)[x]!.toNat < (swp dk j a)[j]!.toNat) ∧ (∀ x, j < x → x < b → ¬ (swp dk j a)[x]!.toNat < (swp dk j a)[j]!.toNat) := by
  have hs : dk.size = d.size := hp.1
  have h1 := swp_at dk j a j (by omega) (by omega)
  rw [if_pos rfl] at h1
  refine ⟨perm_swap hp hbd haj hjb (Nat.le_refl _) (by omega), fun x g1 g2 => ?_, fun x g1 g2 => ?_⟩
  · rw [h1, ha, swp_at dk j a x (by omega) (by omega), if_neg (by omega)]
    by_cases e : x = a
    · rw [if_pos e]; exact hl j (by omega) hji
    · rw [if_neg e]; exact hl x (by omega) (by omega)
  · rw [h1, ha, swp_at dk j a x (by omega) (by omega), if_neg (by omega), if_neg (by omega)]
    exact hh x g1 g2

/-- two places are exchanged, and the scans go on -/
theorem part_step {d dk : Array UInt8} {a b i j P : Nat} (hp : PermIn a b d dk) (hbd : b ≤ d.size) (ha : dk[a]!.toNat = P) (hl : Lows dk a i P) (hh : Highs dk b j P) (hij : i < j) (hai : a < i) (hjb : j < b) (h1 : ¬ dk[i]!.toNat < P) (h2 : dk[j]!.toNat < P) :
    PermIn a b d (swp dk i j) ∧ (swp dk i j)[a]!.toNat = P ∧ Lows (swp dk i j) a (i + 1) P ∧ Highs (swp dk i j) b (j - 1) P := by
  have hs : dk.size = d.size := hp.1
  refine ⟨perm_swap hp hbd (by omega) (by omega) (by omega) hjb, ?_, fun x g1 g2 => ?_, fun x g1 g2 => ?_⟩
  · rw [swp_at dk i j a (by omega) (by omega), if_neg (by omega), if_neg (by omega)]; exact ha
  · rw [swp_at dk i j x (by omega) (by omega)]
    by_cases e : x = i
    · rw [if_pos e]; exact h2
    · rw [if_neg e, if_neg (by omega)]; exact hl x g1 (by omega)
  · rw [swp_at dk i j x (by omega) (by omega), if_neg (by omega)]
    by_cases e : x = j
    · rw [if_pos e]; exact h1
    · rw [if_neg e]; exact hh x (by omega) g2

set_option maxRecDepth 100000 in
set_option maxHeartbeats 4000000 in
theorem partition_any {w0 : World} {blk N : Nat} (R : Base w0 blk N) (hN : N ≤ 4000000) (cap a b p : Nat) (d : Array UInt8) (hd : d.size = N) (hb : b ≤ N) (hap : a ≤ p) (hpb : p < b) (w : World) (S : SB w0 blk d w) :
    Calls Tryd.prog 122 #[.slice (some ⟨blk, 0, none⟩) N cap, .int .i64 a, .int .i64 b, .int .i64 p] w (Part w0 blk d a b) := by
  have HR := Aside0.mk R
  have HS := Aside0.mk S
  have HD := Aside0.mk hd
  have HBD : Aside0 (b ≤ d.size) := ⟨by omega⟩
  have HPM : Aside0 (PermIn a b d (swp d a p)) := ⟨perm_swap (permIn_refl d a b) (by omega) (Nat.le_refl _) (by omega) hap hpb⟩
  obtain ⟨P, hP⟩ : ∃ P, P = (swp d a p)[a]!.toNat := ⟨_, rfl⟩
  have HPd : Aside0 ((swp d a p)[a]!.toNat = P) := ⟨hP.symm⟩
  have HD1 : Aside0 ((swp d a p).size = N) := ⟨by rw [size_swp]; exact hd⟩
  clear R S hd hP
  obtain ⟨b1, rfl⟩ : ∃ b1, b = b1 + 1 := ⟨b - 1, by omega⟩
  go_enter Tryd.func122, Tryd.ntmps122
  go_wp2
  have ci_ := HR.out.cell HS.out HD.out a (by omega)
  have cj_ := HR.out.cell HS.out HD.out p (by omega)
  have fi_ := HR.out.frozen HS.out HD.out a (by omega)
  have fj_ := HR.out.frozen HS.out HD.out p (by omega)
  obtain ⟨u_, cu_⟩ := HR.out.cell2 HS.out HD.out a p (by omega) (by omega) (.int .u8 (d[p]!.toNat : Int))
  have HV1 := Aside0.mk ((HR.out.swap HS.out a p (by rw [HD.out]; omega) (by rw [HD.out]; omega)).drewN 1)
  have li_ : a < N := by omega
  have lj_ : p < N := by omega
  obtain ⟨x_, hx_⟩ : ∃ x_, x_ = d[a]!.toNat := ⟨_, rfl⟩
  obtain ⟨y_, hy_⟩ : ∃ y_, y_ = d[p]!.toNat := ⟨_, rfl⟩
  rw [← hx_] at ci_
  rw [← hy_] at cj_ cu_
  rw [← hx_, ← hy_] at HV1
  clear hx_ hy_
  go_region
  have HV1 : Aside0 (SB w0 blk (swp d a p) ((w.setCell ⟨blk, a, none⟩ (.int .u8 (y_ : Int))).setCell ⟨blk, p, none⟩ (.int .u8 (x_ : Int))).drew) := HV1
  generalize ((w.setCell ⟨blk, a, none⟩ (.int .u8 (y_ : Int))).setCell ⟨blk, p, none⟩ (.int .u8 (x_ : Int))).drew = V1 at HV1 ⊢
  clear ci_ cj_ fi_ fj_ cu_ li_ lj_
  generalize swp d a p = d1 at HPM HPd HD1 HV1
  have HL0 : Aside0 (Lows d1 a (a + 1) P) := ⟨fun x h1 h2 => by omega⟩
  have HH0 : Aside0 (Highs d1 (b1 + 1) b1 P) := ⟨fun x h1 h2 => by omega⟩
  go_upto_block 0 with fail
  go_cut [10] (fun vi wc => ∃ i : Nat, vi = .int .i64 i ∧ (a + 1) ≤ i ∧ i ≤ b1 + 1 ∧ Aside0 (Lows d1 a i P) ∧ Aside0 (b1 < i ∨ ¬ d1[i]!.toNat < P) ∧ Aside0 (SB w0 blk d1 wc))
  case first =>
    go_wp2_with fail
    go_loopg [10] (b1 + 3) (fun gg vi wr => ∃ i : Nat, vi = .int .i64 i ∧ (a + 1) ≤ i ∧ i ≤ b1 + 1 ∧ b1 + 1 - i < gg ∧ Aside0 (Lows d1 a i P) ∧ Aside0 (SB w0 blk d1 wr))
    case atStart => exact ⟨(a + 1), by first | rfl | go_num, by omega, by omega, by omega, HL0, HV1⟩
    case round =>
      rename World => VU
      obtain ⟨i, rfl, i1, i2, i3, HLO, HVU⟩ := hrel
      by_cases hij : i ≤ b1
      · have hijz : ((i : Int) ≤ (b1 : Nat)) = True := by simp; omega
        have li : i < N := by omega
        have la : a < N := by omega
        have ci := HR.out.cell HVU.out HD1.out i li
        have ca := HR.out.cell HVU.out HD1.out a la
        rw [HPd.out] at ca
        by_cases hl : d1[i]!.toNat < P
        · have HLS := Aside0.mk (fun W => less_yes _ _ hl W)
          have HLO2 : Aside0 (Lows d1 a (i + 1) P) := ⟨fun x h1 h2 => by
            by_cases e : x = i
            · subst e; exact hl
            · exact HLO.out x h1 (by omega)⟩
          generalize d1[i]!.toNat = xi at ci HLS
          clear hl
          go_wp2
          go_quiet (first | (go_at_call 120; refine Calls.quiet_of_same (HLS.out _)))
          go_wp2
          go_roundg (b1 + 1 - i)
          case measure => omega
          case rel => exact ⟨i + 1, by first | rfl | go_num, by omega, by omega, by omega, HLO2, ⟨HVU.out.drewN _⟩⟩
        · have HLS := Aside0.mk (fun W => less_no _ _ hl W)
          have HST : Aside0 (b1 < i ∨ ¬ d1[i]!.toNat < P) := ⟨.inr hl⟩
          obtain ⟨xi, hxi⟩ : ∃ xi, xi = d1[i]!.toNat := ⟨_, rfl⟩
          rw [← hxi] at ci HLS
          clear hl hxi
          go_wp2
          go_quiet (first | (go_at_call 120; refine Calls.quiet_of_same (HLS.out _)))
          go_wp2
          go_meet
          case rel => exact ⟨i, rfl, by omega, by omega, HLO, HST, ⟨HVU.out.drewN _⟩⟩
      · have hijz : ((i : Int) ≤ (b1 : Nat)) = False := by simp; omega
        go_wp2
        go_quiet (first | (go_at_call 120; refine Calls.quiet_of_same (less_any _ _ _)))
        go_wp2
        go_meet
        case rel => exact ⟨i, rfl, by omega, by omega, HLO, ⟨.inl (by omega)⟩, ⟨HVU.out.drewN _⟩⟩
  case rest =>
    obtain ⟨i, rfl, i1, i2, HLO, HIS, HVI⟩ := hcut
    go_upto_block 2 with fail
    go_cut [11] (fun vj wc => ∃ j : Nat, vj = .int .i64 j ∧ i ≤ j + 1 ∧ j ≤ b1 ∧ Aside0 (Highs d1 (b1 + 1) j P) ∧ Aside0 (j < i ∨ d1[j]!.toNat < P) ∧ Aside0 (SB w0 blk d1 wc))
    case first =>
      go_wp2_with fail
      go_loopg [11] (b1 + 3) (fun gg vj wr => ∃ j : Nat, vj = .int .i64 j ∧ i ≤ j + 1 ∧ j ≤ b1 ∧ j < gg ∧ Aside0 (Highs d1 (b1 + 1) j P) ∧ Aside0 (SB w0 blk d1 wr))
      case atStart => exact ⟨b1, by first | rfl | go_num, by omega, by omega, by omega, HH0, HVI⟩
      case round =>
        rename World => VU
        obtain ⟨j, rfl, j1, j2, j3, HHI, HVU⟩ := hrel
        by_cases hij : i ≤ j
        · have hijz : ((i : Int) ≤ (j : Nat)) = True := by simp; omega
          have lj : j < N := by omega
          have la : a < N := by omega
          have cj := HR.out.cell HVU.out HD1.out j lj
          have ca := HR.out.cell HVU.out HD1.out a la
          rw [HPd.out] at ca
          by_cases hl : d1[j]!.toNat < P
          · have HLS := Aside0.mk (fun W => less_yes _ _ hl W)
            have HST : Aside0 (j < i ∨ d1[j]!.toNat < P) := ⟨.inr hl⟩
            obtain ⟨xj, hxj⟩ : ∃ xj, xj = d1[j]!.toNat := ⟨_, rfl⟩
            rw [← hxj] at cj HLS
            clear hl hxj
            go_wp2
            go_quiet (first | (go_at_call 120; refine Calls.quiet_of_same (HLS.out _)))
            go_wp2
            go_meet
            case rel => exact ⟨j, rfl, by omega, by omega, HHI, HST, ⟨HVU.out.drewN _⟩⟩
          · have HLS := Aside0.mk (fun W => less_no _ _ hl W)
            obtain ⟨q, rfl⟩ : ∃ q, j = q + 1 := ⟨j - 1, by omega⟩
            have HHI2 : Aside0 (Highs d1 (b1 + 1) q P) := ⟨fun x h1 h2 => by
              by_cases e : x = q + 1
              · subst e; exact hl
              · exact HHI.out x (by omega) h2⟩
            have eq1 : ((q : Int) + 1).toNat = q + 1 := by omega
            have hijz2 : ((i : Int) ≤ (q : Int) + 1) = True := by simp; omega
            generalize d1[q + 1]!.toNat = xj at cj HLS
            clear hl
            go_wp2
            go_quiet (first | (go_at_call 120; refine Calls.quiet_of_same (HLS.out _)))
            go_wp2
            go_roundg (q + 1)
            case measure => omega
            case rel => exact ⟨q, by first | rfl | go_num, by omega, by omega, by omega, HHI2, ⟨HVU.out.drewN _⟩⟩
        · have hijz : ((i : Int) ≤ (j : Nat)) = False := by simp; omega
          go_wp2
          go_quiet (first | (go_at_call 120; refine Calls.quiet_of_same (less_any _ _ _)))
          go_wp2
          go_meet
          case rel => exact ⟨j, rfl, by omega, by omega, HHI, ⟨.inl (by omega)⟩, ⟨HVU.out.drewN _⟩⟩
    case rest =>
      obtain ⟨j, rfl, j1, j2, HHI, HJS, HVJ⟩ := hcut
      by_cases hgt : j < i
      · have hgz : ((j : Int) < (i : Int)) = True := by simp; omega
        have HE := Aside0.mk (part_end HPM.out HBD.out HPd.out HLO.out HHI.out hgt (by omega) (by omega))
        go_wp2
        have ci_ := HR.out.cell HVJ.out HD1.out j (by omega)
        have cj_ := HR.out.cell HVJ.out HD1.out a (by omega)
        have fi_ := HR.out.frozen HVJ.out HD1.out j (by omega)
        have fj_ := HR.out.frozen HVJ.out HD1.out a (by omega)
        obtain ⟨u_, cu_⟩ := HR.out.cell2 HVJ.out HD1.out j a (by omega) (by omega) (.int .u8 (d1[a]!.toNat : Int))
        have HVE := Aside0.mk ((HR.out.swap HVJ.out j a (by rw [HD1.out]; omega) (by rw [HD1.out]; omega)).drewN 1)
        have li_ : j < N := by omega
        have lj_ : a < N := by omega
        obtain ⟨x_, hx_⟩ : ∃ x_, x_ = d1[j]!.toNat := ⟨_, rfl⟩
        obtain ⟨y_, hy_⟩ : ∃ y_, y_ = d1[a]!.toNat := ⟨_, rfl⟩
        rw [← hx_] at ci_
        rw [← hy_] at cj_ cu_
        rw [← hx_, ← hy_] at HVE
        clear hx_ hy_
        go_region
        have HVE : Aside0 (SB w0 blk (swp d1 j a) ((wc.setCell ⟨blk, j, none⟩ (.int .u8 (y_ : Int))).setCell ⟨blk, a, none⟩ (.int .u8 (x_ : Int))).drew) := HVE
        generalize ((wc.setCell ⟨blk, j, none⟩ (.int .u8 (y_ : Int))).setCell ⟨blk, a, none⟩ (.int .u8 (x_ : Int))).drew = VE at HVE ⊢
        clear ci_ cj_ fi_ fj_ cu_ li_ lj_
        go_wp2
        refine bodyPost_ret (results_tmp2 rfl _ _ _) rfl ?_
        exact ⟨j, true, swp d1 j a, rfl, by omega, by omega, ⟨HE.out.1⟩, ⟨HE.out.2.1⟩, ⟨HE.out.2.2⟩, HVE⟩
      · have hgz : ((j : Int) < (i : Int)) = False := by simp; omega
        have hne : Aside0 (i ≠ j) := ⟨fun e => by
          subst e
          rcases HIS.out with h | h
          · omega
          · rcases HJS.out with g | g
            · omega
            · exact h g⟩
        have hij : i < j := by have := hne.out; omega
        have HST := Aside0.mk (part_step HPM.out HBD.out HPd.out HLO.out HHI.out hij (by omega) (by omega) (HIS.out.resolve_left (by omega)) (HJS.out.resolve_left (by omega)))
        go_wp2
        have ci_ := HR.out.cell HVJ.out HD1.out i (by omega)
        have cj_ := HR.out.cell HVJ.out HD1.out j (by omega)
        have fi_ := HR.out.frozen HVJ.out HD1.out i (by omega)
        have fj_ := HR.out.frozen HVJ.out HD1.out j (by omega)
        obtain ⟨u_, cu_⟩ := HR.out.cell2 HVJ.out HD1.out i j (by omega) (by omega) (.int .u8 (d1[j]!.toNat : Int))
        have HV3 := Aside0.mk ((HR.out.swap HVJ.out i j (by rw [HD1.out]; omega) (by rw [HD1.out]; omega)).drewN 1)
        have li_ : i < N := by omega
        have lj_ : j < N := by omega
        obtain ⟨x_, hx_⟩ : ∃ x_, x_ = d1[i]!.toNat := ⟨_, rfl⟩
        obtain ⟨y_, hy_⟩ : ∃ y_, y_ = d1[j]!.toNat := ⟨_, rfl⟩
        rw [← hx_] at ci_
        rw [← hy_] at cj_ cu_
        rw [← hx_, ← hy_] at HV3
        clear hx_ hy_
        go_region
        have HV3 : Aside0 (SB w0 blk (swp d1 i j) ((wc.setCell ⟨blk, i, none⟩ (.int .u8 (y_ : Int))).setCell ⟨blk, j, none⟩ (.int .u8 (x_ : Int))).drew) := HV3
        generalize ((wc.setCell ⟨blk, i, none⟩ (.int .u8 (y_ : Int))).setCell ⟨blk, j, none⟩ (.int .u8 (x_ : Int))).drew = V3 at HV3 ⊢
        clear ci_ cj_ fi_ fj_ cu_ li_ lj_
        have HD2 : Aside0 ((swp d1 i j).size = N) := ⟨by rw [size_swp]; exact HD1.out⟩
        generalize swp d1 i j = d2 at HST HV3 HD2
        go_wp2
        go_loopg [10, 11] (b1 + 3) (fun gg vi vj wr => ∃ (i j : Nat) (dk : Array UInt8), vi = .int .i64 i ∧ vj = .int .i64 j ∧ a + 1 ≤ i ∧ i ≤ j + 1 ∧ j ≤ b1 ∧ j + 1 - i < gg ∧ Aside0 (dk.size = N) ∧ Aside0 (PermIn a (b1 + 1) d dk) ∧ Aside0 (dk[a]!.toNat = P) ∧ Aside0 (Lows dk a i P) ∧ Aside0 (Highs dk (b1 + 1) j P) ∧ Aside0 (SB w0 blk dk wr))
        case atStart => exact ⟨i + 1, j - 1, d2, by first | rfl | go_num, congrArg (Value.int .i64) (by omega), by omega, by omega, by omega, by omega, HD2, ⟨HST.out.1⟩, ⟨HST.out.2.1⟩, ⟨HST.out.2.2.1⟩, ⟨HST.out.2.2.2⟩, HV3⟩
        case round =>
          clear HST HV3 HD2 HLO HHI HIS HJS HVI HVJ HPM HPd HD1 HL0 HH0 hne hgz
          rename World => VR
          clear hgt hij i1 i2 j1 j2
          obtain ⟨i0, j0, dk, rfl, rfl, r1, r2, r3, r4, HDK, HPM, HPd, HL0, HH0, HVR⟩ := hrel
          go_upto_block 6 with fail
          go_cut [10] (fun vi wc => ∃ i : Nat, vi = .int .i64 i ∧ i0 ≤ i ∧ i ≤ j0 + 1 ∧ Aside0 (Lows dk a i P) ∧ Aside0 (j0 < i ∨ ¬ dk[i]!.toNat < P) ∧ Aside0 (SB w0 blk dk wc))
          case first =>
            go_wp2_with fail
            go_loopg [10] (b1 + 3) (fun gg vi wr => ∃ i : Nat, vi = .int .i64 i ∧ i0 ≤ i ∧ i ≤ j0 + 1 ∧ j0 + 1 - i < gg ∧ Aside0 (Lows dk a i P) ∧ Aside0 (SB w0 blk dk wr))
            case atStart => exact ⟨i0, by first | rfl | go_num, by omega, by omega, by omega, HL0, HVR⟩
            case round =>
              rename World => VU
              obtain ⟨i, rfl, i1, i2, i3, HLO, HVU⟩ := hrel
              by_cases hij : i ≤ j0
              · have hijz : ((i : Int) ≤ (j0 : Nat)) = True := by simp; omega
                have li : i < N := by omega
                have la : a < N := by omega
                have ci := HR.out.cell HVU.out HDK.out i li
                have ca := HR.out.cell HVU.out HDK.out a la
                rw [HPd.out] at ca
                by_cases hl : dk[i]!.toNat < P
                · have HLS := Aside0.mk (fun W => less_yes _ _ hl W)
                  have HLO2 : Aside0 (Lows dk a (i + 1) P) := ⟨fun x h1 h2 => by
                    by_cases e : x = i
                    · subst e; exact hl
                    · exact HLO.out x h1 (by omega)⟩
                  generalize dk[i]!.toNat = xi at ci HLS
                  clear hl
                  go_wp2
                  go_quiet (first | (go_at_call 120; refine Calls.quiet_of_same (HLS.out _)))
                  go_wp2
                  go_roundg (j0 + 1 - i)
                  case measure => omega
                  case rel => exact ⟨i + 1, by first | rfl | go_num, by omega, by omega, by omega, HLO2, ⟨HVU.out.drewN _⟩⟩
                · have HLS := Aside0.mk (fun W => less_no _ _ hl W)
                  have HST : Aside0 (j0 < i ∨ ¬ dk[i]!.toNat < P) := ⟨.inr hl⟩
                  obtain ⟨xi, hxi⟩ : ∃ xi, xi = dk[i]!.toNat := ⟨_, rfl⟩
                  rw [← hxi] at ci HLS
                  clear hl hxi
                  go_wp2
                  go_quiet (first | (go_at_call 120; refine Calls.quiet_of_same (HLS.out _)))
                  go_wp2
                  go_meet
                  case rel => exact ⟨i, rfl, by omega, by omega, HLO, HST, ⟨HVU.out.drewN _⟩⟩
              · have hijz : ((i : Int) ≤ (j0 : Nat)) = False := by simp; omega
                go_wp2
                go_quiet (first | (go_at_call 120; refine Calls.quiet_of_same (less_any _ _ _)))
                go_wp2
                go_meet
                case rel => exact ⟨i, rfl, by omega, by omega, HLO, ⟨.inl (by omega)⟩, ⟨HVU.out.drewN _⟩⟩
          case rest =>
            obtain ⟨i, rfl, i1, i2, HLO, HIS, HVI⟩ := hcut
            go_upto_block 8 with fail
            go_cut [11] (fun vj wc => ∃ j : Nat, vj = .int .i64 j ∧ i ≤ j + 1 ∧ j ≤ j0 ∧ Aside0 (Highs dk (b1 + 1) j P) ∧ Aside0 (j < i ∨ dk[j]!.toNat < P) ∧ Aside0 (SB w0 blk dk wc))
            case first =>
              go_wp2_with fail
              go_loopg [11] (b1 + 3) (fun gg vj wr => ∃ j : Nat, vj = .int .i64 j ∧ i ≤ j + 1 ∧ j ≤ j0 ∧ j < gg ∧ Aside0 (Highs dk (b1 + 1) j P) ∧ Aside0 (SB w0 blk dk wr))
              case atStart => exact ⟨j0, by first | rfl | go_num, by omega, by omega, by omega, HH0, HVI⟩
              case round =>
                rename World => VU
                obtain ⟨j, rfl, j1, j2, j3, HHI, HVU⟩ := hrel
                by_cases hij : i ≤ j
                · have hijz : ((i : Int) ≤ (j : Nat)) = True := by simp; omega
                  have lj : j < N := by omega
                  have la : a < N := by omega
                  have cj := HR.out.cell HVU.out HDK.out j lj
                  have ca := HR.out.cell HVU.out HDK.out a la
                  rw [HPd.out] at ca
                  by_cases hl : dk[j]!.toNat < P
                  · have HLS := Aside0.mk (fun W => less_yes _ _ hl W)
                    have HST : Aside0 (j < i ∨ dk[j]!.toNat < P) := ⟨.inr hl⟩
                    obtain ⟨xj, hxj⟩ : ∃ xj, xj = dk[j]!.toNat := ⟨_, rfl⟩
                    rw [← hxj] at cj HLS
                    clear hl hxj
                    go_wp2
                    go_quiet (first | (go_at_call 120; refine Calls.quiet_of_same (HLS.out _)))
                    go_wp2
                    go_meet
                    case rel => exact ⟨j, rfl, by omega, by omega, HHI, HST, ⟨HVU.out.drewN _⟩⟩
                  · have HLS := Aside0.mk (fun W => less_no _ _ hl W)
                    obtain ⟨q, rfl⟩ : ∃ q, j = q + 1 := ⟨j - 1, by omega⟩
                    have HHI2 : Aside0 (Highs dk (b1 + 1) q P) := ⟨fun x h1 h2 => by
                      by_cases e : x = q + 1
                      · subst e; exact hl
                      · exact HHI.out x (by omega) h2⟩
                    have eq1 : ((q : Int) + 1).toNat = q + 1 := by omega
                    have hijz2 : ((i : Int) ≤ (q : Int) + 1) = True := by simp; omega
                    generalize dk[q + 1]!.toNat = xj at cj HLS
                    clear hl
                    go_wp2
                    go_quiet (first | (go_at_call 120; refine Calls.quiet_of_same (HLS.out _)))
                    go_wp2
                    go_roundg (q + 1)
                    case measure => omega
                    case rel => exact ⟨q, by first | rfl | go_num, by omega, by omega, by omega, HHI2, ⟨HVU.out.drewN _⟩⟩
                · have hijz : ((i : Int) ≤ (j : Nat)) = False := by simp; omega
                  go_wp2
                  go_quiet (first | (go_at_call 120; refine Calls.quiet_of_same (less_any _ _ _)))
                  go_wp2
                  go_meet
                  case rel => exact ⟨j, rfl, by omega, by omega, HHI, ⟨.inl (by omega)⟩, ⟨HVU.out.drewN _⟩⟩
            case rest =>
              obtain ⟨j, rfl, j1, j2, HHI, HJS, HVJ⟩ := hcut
              by_cases hgt : j < i
              · have hgz : ((j : Int) < (i : Int)) = True := by simp; omega
                have HE := Aside0.mk (part_end HPM.out HBD.out HPd.out HLO.out HHI.out hgt (by omega) (by omega))
                go_wp2
                have ci_ := HR.out.cell HVJ.out HDK.out j (by omega)
                have cj_ := HR.out.cell HVJ.out HDK.out a (by omega)
                have fi_ := HR.out.frozen HVJ.out HDK.out j (by omega)
                have fj_ := HR.out.frozen HVJ.out HDK.out a (by omega)
                obtain ⟨u_, cu_⟩ := HR.out.cell2 HVJ.out HDK.out j a (by omega) (by omega) (.int .u8 (dk[a]!.toNat : Int))
                have HVE := Aside0.mk ((HR.out.swap HVJ.out j a (by rw [HDK.out]; omega) (by rw [HDK.out]; omega)).drewN 1)
                have li_ : j < N := by omega
                have lj_ : a < N := by omega
                obtain ⟨x_, hx_⟩ : ∃ x_, x_ = dk[j]!.toNat := ⟨_, rfl⟩
                obtain ⟨y_, hy_⟩ : ∃ y_, y_ = dk[a]!.toNat := ⟨_, rfl⟩
                rw [← hx_] at ci_
                rw [← hy_] at cj_ cu_
                rw [← hx_, ← hy_] at HVE
                clear hx_ hy_
                go_region
                have HVE : Aside0 (SB w0 blk (swp dk j a) ((wc.setCell ⟨blk, j, none⟩ (.int .u8 (y_ : Int))).setCell ⟨blk, a, none⟩ (.int .u8 (x_ : Int))).drew) := HVE
                generalize ((wc.setCell ⟨blk, j, none⟩ (.int .u8 (y_ : Int))).setCell ⟨blk, a, none⟩ (.int .u8 (x_ : Int))).drew = VE at HVE ⊢
                clear ci_ cj_ fi_ fj_ cu_ li_ lj_
                go_wp2
                refine bodyPost_ret (results_tmp2 rfl _ _ _) rfl ?_
                exact ⟨j, false, swp dk j a, rfl, by omega, by omega, ⟨HE.out.1⟩, ⟨HE.out.2.1⟩, ⟨HE.out.2.2⟩, HVE⟩
              · have hgz : ((j : Int) < (i : Int)) = False := by simp; omega
                have hne : Aside0 (i ≠ j) := ⟨fun e => by
                  subst e
                  rcases HIS.out with h | h
                  · omega
                  · rcases HJS.out with g | g
                    · omega
                    · exact h g⟩
                have hij : i < j := by have := hne.out; omega
                have HST := Aside0.mk (part_step HPM.out HBD.out HPd.out HLO.out HHI.out hij (by omega) (by omega) (HIS.out.resolve_left (by omega)) (HJS.out.resolve_left (by omega)))
                go_wp2
                have ci_ := HR.out.cell HVJ.out HDK.out i (by omega)
                have cj_ := HR.out.cell HVJ.out HDK.out j (by omega)
                have fi_ := HR.out.frozen HVJ.out HDK.out i (by omega)
                have fj_ := HR.out.frozen HVJ.out HDK.out j (by omega)
                obtain ⟨u_, cu_⟩ := HR.out.cell2 HVJ.out HDK.out i j (by omega) (by omega) (.int .u8 (dk[j]!.toNat : Int))
                have HV3 := Aside0.mk ((HR.out.swap HVJ.out i j (by rw [HDK.out]; omega) (by rw [HDK.out]; omega)).drewN 1)
                have li_ : i < N := by omega
                have lj_ : j < N := by omega
                obtain ⟨x_, hx_⟩ : ∃ x_, x_ = dk[i]!.toNat := ⟨_, rfl⟩
                obtain ⟨y_, hy_⟩ : ∃ y_, y_ = dk[j]!.toNat := ⟨_, rfl⟩
                rw [← hx_] at ci_
                rw [← hy_] at cj_ cu_
                rw [← hx_, ← hy_] at HV3
                clear hx_ hy_
                go_region
                have HV3 : Aside0 (SB w0 blk (swp dk i j) ((wc.setCell ⟨blk, i, none⟩ (.int .u8 (y_ : Int))).setCell ⟨blk, j, none⟩ (.int .u8 (x_ : Int))).drew) := HV3
                generalize ((wc.setCell ⟨blk, i, none⟩ (.int .u8 (y_ : Int))).setCell ⟨blk, j, none⟩ (.int .u8 (x_ : Int))).drew = V3 at HV3 ⊢
                clear ci_ cj_ fi_ fj_ cu_ li_ lj_
                have HD2 : Aside0 ((swp dk i j).size = N) := ⟨by rw [size_swp]; exact HDK.out⟩
                generalize swp dk i j = d2 at HST HV3 HD2
                go_wp2
                go_roundg (j0 + 1 - i0)
                case measure => omega
                case rel => exact ⟨i + 1, j - 1, d2, by first | rfl | go_num, congrArg (Value.int .i64) (by omega), by omega, by omega, by omega, by omega, HD2, ⟨HST.out.1⟩, ⟨HST.out.2.1⟩, ⟨HST.out.2.2.1⟩, ⟨HST.out.2.2.2⟩, HV3⟩
end Go.Proofs.YtoieadofldkccaaDoor.Bytes
namespace Go.Proofs.YtoieadofldkccaaDoor.Bytes
open Go.RowKit Go.Sort Go.Proofs Go.Proofs.YtoieadofldkccaaDoorW.PrintWords Go.Proofs.YtoieadofldkccaaDoorW.PrintLast Go.Proofs.YtoieadofldkccaaDoorW.PrintMore
set_option linter.unusedVariables false
set_option linter.unusedSimpArgs false

abbrev LowsE (d : Array UInt8) (a i P : Nat) : Prop := ∀ x, a + 1 ≤ x → x < i → ¬ P < d[x]!.toNat
abbrev HighsE (d : Array UInt8) (b j P : Nat) : Prop := ∀ x, j < x → x < b → P < d[x]!.toNat

/-- what partitionEqualOrdered leaves -/
def PartE (w0 : World) (blk : Nat) (d : Array UInt8) (a b P : Nat) (e : Ending) (w' : World) : Prop :=
  ∃ (m : Nat) (d' : Array UInt8), e = .returned (.int .i64 m) ∧ a < m ∧ m ≤ b ∧ Aside0 (PermIn a b d d') ∧ Aside0 (∀ x, a ≤ x → x < m → ¬ P < d'[x]!.toNat) ∧ Aside0 (∀ x, m ≤ x → x < b → P < d'[x]!.toNat) ∧ Aside0 (SB w0 blk d' w')

theorem partE_step {d dk : Array UInt8} {a b i j P : Nat} (hp : PermIn a b d dk) (hbd : b ≤ d.size) (ha : dk[a]!.toNat = P) (hl : LowsE dk a i P) (hh : HighsE dk b j P) (hij : i < j) (hai : a < i) (hjb : j < b) (h1 : P < dk[i]!.toNat) (h2 : ¬ P < dk[j]!.toNat) :
    PermIn a b d (swp dk i j) ∧ (swp dk i j)[a]!.toNat = P ∧ LowsE (swp dk i j) a (i + 1) P ∧ HighsE (swp dk i j) b (j - 1) P := by
  have hs : dk.size = d.size := hp.1
  refine ⟨perm_swap hp hbd (by omega) (by omega) (by omega) hjb, ?_, fun x g1 g2 => ?_, fun x g1 g2 => ?_⟩
  · rw [swp_at dk i j a (by omega) (by omega), if_neg (by omega), if_neg (by omega)]; exact ha
  · rw [swp_at dk i j x (by omega) (by omega)]
    by_cases e : x = i
    · rw [if_pos e]; exact h2
    · rw [if_neg e, if_neg (by omega)]; exact hl x g1 (by omega)
  · rw [swp_at dk i j x (by omega) (by omega), if_neg (by omega)]
    by_cases e : x = j
    · rw [if_pos e]; exact h1
    · rw [if_neg e]; exact hh x (by omega) g2

set_option maxRecDepth 100000 in
set_option maxHeartbeats 4000000 in
theorem partitionEqual_any {w0 : World} {blk N : Nat} (R : Base w0 blk N) (hN : N ≤ 4000000) (cap a b p : Nat) (d : Array UInt8) (hd : d.size = N) (hb : b ≤ N) (hap : a ≤ p) (hpb : p < b) (w : World) (S : SB w0 blk d w) :
    Calls Tryd.prog 121 #[.slice (some ⟨blk, 0, none⟩) N cap, .int .i64 a, .int .i64 b, .int .i64 p] w (PartE w0 blk d a b d[p]!.toNat) := by
  have HR := Aside0.mk R
  have HS := Aside0.mk S
  have HD := Aside0.mk hd
  have HBD : Aside0 (b ≤ d.size) := ⟨by omega⟩
  have HPM : Aside0 (PermIn a b d (swp d a p)) := ⟨perm_swap (permIn_refl d a b) (by omega) (Nat.le_refl _) (by omega) hap hpb⟩
  obtain ⟨P, hP⟩ : ∃ P, P = d[p]!.toNat := ⟨_, rfl⟩
  have HPd : Aside0 ((swp d a p)[a]!.toNat = P) := ⟨by rw [swp_at d a p a (by omega) (by omega), if_pos rfl]; exact hP.symm⟩
  have HD1 : Aside0 ((swp d a p).size = N) := ⟨by rw [size_swp]; exact hd⟩
  rw [← hP]
  clear R S hd hP
  obtain ⟨b1, rfl⟩ : ∃ b1, b = b1 + 1 := ⟨b - 1, by omega⟩
  go_enter Tryd.func121, Tryd.ntmps121
  go_wp2
  have ci_ := HR.out.cell HS.out HD.out a (by omega)
  have cj_ := HR.out.cell HS.out HD.out p (by omega)
  have fi_ := HR.out.frozen HS.out HD.out a (by omega)
  have fj_ := HR.out.frozen HS.out HD.out p (by omega)
  obtain ⟨u_, cu_⟩ := HR.out.cell2 HS.out HD.out a p (by omega) (by omega) (.int .u8 (d[p]!.toNat : Int))
  have HV1 := Aside0.mk ((HR.out.swap HS.out a p (by rw [HD.out]; omega) (by rw [HD.out]; omega)).drewN 1)
  have li_ : a < N := by omega
  have lj_ : p < N := by omega
  obtain ⟨x_, hx_⟩ : ∃ x_, x_ = d[a]!.toNat := ⟨_, rfl⟩
  obtain ⟨y_, hy_⟩ : ∃ y_, y_ = d[p]!.toNat := ⟨_, rfl⟩
  rw [← hx_] at ci_
  rw [← hy_] at cj_ cu_
  rw [← hx_, ← hy_] at HV1
  clear hx_ hy_
  go_region
  have HV1 : Aside0 (SB w0 blk (swp d a p) ((w.setCell ⟨blk, a, none⟩ (.int .u8 (y_ : Int))).setCell ⟨blk, p, none⟩ (.int .u8 (x_ : Int))).drew) := HV1
  generalize ((w.setCell ⟨blk, a, none⟩ (.int .u8 (y_ : Int))).setCell ⟨blk, p, none⟩ (.int .u8 (x_ : Int))).drew = V1 at HV1 ⊢
  clear ci_ cj_ fi_ fj_ cu_ li_ lj_
  generalize swp d a p = d1 at HPM HPd HD1 HV1
  have HL0 : Aside0 (LowsE d1 a (a + 1) P) := ⟨fun x h1 h2 => by omega⟩
  have HH0 : Aside0 (HighsE d1 (b1 + 1) b1 P) := ⟨fun x h1 h2 => by omega⟩
  go_wp2
  go_loopg [9, 10] (b1 + 3) (fun gg vi vj wr => ∃ (i j : Nat) (dk : Array UInt8), vi = .int .i64 i ∧ vj = .int .i64 j ∧ a + 1 ≤ i ∧ i ≤ j + 1 ∧ j ≤ b1 ∧ j + 1 - i < gg ∧ Aside0 (dk.size = N) ∧ Aside0 (PermIn a (b1 + 1) d dk) ∧ Aside0 (dk[a]!.toNat = P) ∧ Aside0 (LowsE dk a i P) ∧ Aside0 (HighsE dk (b1 + 1) j P) ∧ Aside0 (SB w0 blk dk wr))
  case atStart => exact ⟨a + 1, b1, d1, by first | rfl | go_num, by first | rfl | go_num, by omega, by omega, by omega, by omega, HD1, HPM, HPd, HL0, HH0, HV1⟩
  case round =>
    clear HPM HPd HD1 HL0 HH0 HV1
    rename World => VR
    obtain ⟨i0, j0, dk, rfl, rfl, r1, r2, r3, r4, HDK, HPM, HPd, HL0, HH0, HVR⟩ := hrel
    go_upto_block 2 with fail
    go_cut [9] (fun vi wc => ∃ i : Nat, vi = .int .i64 i ∧ i0 ≤ i ∧ i ≤ j0 + 1 ∧ Aside0 (LowsE dk a i P) ∧ Aside0 (j0 < i ∨ P < dk[i]!.toNat) ∧ Aside0 (SB w0 blk dk wc))
    case first =>
      go_wp2_with fail
      go_loopg [9] (b1 + 3) (fun gg vi wr => ∃ i : Nat, vi = .int .i64 i ∧ i0 ≤ i ∧ i ≤ j0 + 1 ∧ j0 + 1 - i < gg ∧ Aside0 (LowsE dk a i P) ∧ Aside0 (SB w0 blk dk wr))
      case atStart => exact ⟨i0, by first | rfl | go_num, by omega, by omega, by omega, HL0, HVR⟩
      case round =>
        rename World => VU
        obtain ⟨i, rfl, i1, i2, i3, HLO, HVU⟩ := hrel
        by_cases hij : i ≤ j0
        · have hijz : ((i : Int) ≤ (j0 : Nat)) = True := by simp; omega
          have li : i < N := by omega
          have la : a < N := by omega
          have ci := HR.out.cell HVU.out HDK.out i li
          have ca := HR.out.cell HVU.out HDK.out a la
          rw [HPd.out] at ca
          by_cases hl : ¬ P < dk[i]!.toNat
          · have HLS := Aside0.mk (fun W => less_no _ _ hl W)
            have HLO2 : Aside0 (LowsE dk a (i + 1) P) := ⟨fun x h1 h2 => by
              by_cases e : x = i
              · subst e; exact hl
              · exact HLO.out x h1 (by omega)⟩
            generalize dk[i]!.toNat = xi at ci HLS
            clear hl
            go_wp2
            go_quiet (first | (go_at_call 120; refine Calls.quiet_of_same (HLS.out _)))
            go_wp2
            go_roundg (j0 + 1 - i)
            case measure => omega
            case rel => exact ⟨i + 1, by first | rfl | go_num, by omega, by omega, by omega, HLO2, ⟨HVU.out.drewN _⟩⟩
          · have HLS := Aside0.mk (fun W => less_yes _ _ (Nat.lt_of_not_ge (fun h => hl (Nat.not_lt.2 h))) W)
            have HST : Aside0 (j0 < i ∨ P < dk[i]!.toNat) := ⟨.inr (Nat.lt_of_not_ge (fun h => hl (Nat.not_lt.2 h)))⟩
            obtain ⟨xi, hxi⟩ : ∃ xi, xi = dk[i]!.toNat := ⟨_, rfl⟩
            rw [← hxi] at ci HLS
            clear hl hxi
            go_wp2
            go_quiet (first | (go_at_call 120; refine Calls.quiet_of_same (HLS.out _)))
            go_wp2
            go_meet
            case rel => exact ⟨i, rfl, by omega, by omega, HLO, HST, ⟨HVU.out.drewN _⟩⟩
        · have hijz : ((i : Int) ≤ (j0 : Nat)) = False := by simp; omega
          go_wp2
          go_quiet (first | (go_at_call 120; refine Calls.quiet_of_same (less_any _ _ _)))
          go_wp2
          go_meet
          case rel => exact ⟨i, rfl, by omega, by omega, HLO, ⟨.inl (by omega)⟩, ⟨HVU.out.drewN _⟩⟩
    case rest =>
      obtain ⟨i, rfl, i1, i2, HLO, HIS, HVI⟩ := hcut
      go_upto_block 4 with fail
      go_cut [10] (fun vj wc => ∃ j : Nat, vj = .int .i64 j ∧ i ≤ j + 1 ∧ j ≤ j0 ∧ Aside0 (HighsE dk (b1 + 1) j P) ∧ Aside0 (j < i ∨ ¬ P < dk[j]!.toNat) ∧ Aside0 (SB w0 blk dk wc))
      case first =>
        go_wp2_with fail
        go_loopg [10] (b1 + 3) (fun gg vj wr => ∃ j : Nat, vj = .int .i64 j ∧ i ≤ j + 1 ∧ j ≤ j0 ∧ j < gg ∧ Aside0 (HighsE dk (b1 + 1) j P) ∧ Aside0 (SB w0 blk dk wr))
        case atStart => exact ⟨j0, by first | rfl | go_num, by omega, by omega, by omega, HH0, HVI⟩
        case round =>
          rename World => VU
          obtain ⟨j, rfl, j1, j2, j3, HHI, HVU⟩ := hrel
          by_cases hij : i ≤ j
          · have hijz : ((i : Int) ≤ (j : Nat)) = True := by simp; omega
            have lj : j < N := by omega
            have la : a < N := by omega
            have cj := HR.out.cell HVU.out HDK.out j lj
            have ca := HR.out.cell HVU.out HDK.out a la
            rw [HPd.out] at ca
            by_cases hl : ¬ P < dk[j]!.toNat
            · have HLS := Aside0.mk (fun W => less_no _ _ hl W)
              have HST : Aside0 (j < i ∨ ¬ P < dk[j]!.toNat) := ⟨.inr hl⟩
              obtain ⟨xj, hxj⟩ : ∃ xj, xj = dk[j]!.toNat := ⟨_, rfl⟩
              rw [← hxj] at cj HLS
              clear hl hxj
              go_wp2
              go_quiet (first | (go_at_call 120; refine Calls.quiet_of_same (HLS.out _)))
              go_wp2
              go_meet
              case rel => exact ⟨j, rfl, by omega, by omega, HHI, HST, ⟨HVU.out.drewN _⟩⟩
            · have HLS := Aside0.mk (fun W => less_yes _ _ (Nat.lt_of_not_ge (fun h => hl (Nat.not_lt.2 h))) W)
              obtain ⟨q, rfl⟩ : ∃ q, j = q + 1 := ⟨j - 1, by omega⟩
              have HHI2 : Aside0 (HighsE dk (b1 + 1) q P) := ⟨fun x h1 h2 => by
                by_cases e : x = q + 1
                · subst e; exact Nat.lt_of_not_ge (fun h => hl (Nat.not_lt.2 h))
                · exact HHI.out x (by omega) h2⟩
              have eq1 : ((q : Int) + 1).toNat = q + 1 := by omega
              have hijz2 : ((i : Int) ≤ (q : Int) + 1) = True := by simp; omega
              generalize dk[q + 1]!.toNat = xj at cj HLS
              clear hl
              go_wp2
              go_quiet (first | (go_at_call 120; refine Calls.quiet_of_same (HLS.out _)))
              go_wp2
              go_roundg (q + 1)
              case measure => omega
              case rel => exact ⟨q, by first | rfl | go_num, by omega, by omega, by omega, HHI2, ⟨HVU.out.drewN _⟩⟩
          · have hijz : ((i : Int) ≤ (j : Nat)) = False := by simp; omega
            go_wp2
            go_quiet (first | (go_at_call 120; refine Calls.quiet_of_same (less_any _ _ _)))
            go_wp2
            go_meet
            case rel => exact ⟨j, rfl, by omega, by omega, HHI, ⟨.inl (by omega)⟩, ⟨HVU.out.drewN _⟩⟩
      case rest =>
        obtain ⟨j, rfl, j1, j2, HHI, HJS, HVJ⟩ := hcut
        by_cases hgt : j < i
        · have hgz : ((j : Int) < (i : Int)) = True := by simp; omega
          go_wp2
          go_ret
          refine ⟨i, dk, rfl, by omega, by omega, HPM, ⟨fun x h1 h2 => ?_⟩, ⟨fun x h1 h2 => HHI.out x (by omega) h2⟩, HVJ⟩
          by_cases e : x = a
          · subst e; rw [HPd.out]; exact Nat.lt_irrefl _
          · exact HLO.out x (by omega) h2
        · have hgz : ((j : Int) < (i : Int)) = False := by simp; omega
          have hne : Aside0 (i ≠ j) := ⟨fun e => by
            subst e
            rcases HIS.out with h | h
            · omega
            · rcases HJS.out with g | g
              · omega
              · exact g h⟩
          have hij : i < j := by have := hne.out; omega
          have HST := Aside0.mk (partE_step HPM.out HBD.out HPd.out HLO.out HHI.out hij (by omega) (by omega) (HIS.out.resolve_left (by omega)) (HJS.out.resolve_left (by omega)))
          go_wp2
          have ci_ := HR.out.cell HVJ.out HDK.out i (by omega)
          have cj_ := HR.out.cell HVJ.out HDK.out j (by omega)
          have fi_ := HR.out.frozen HVJ.out HDK.out i (by omega)
          have fj_ := HR.out.frozen HVJ.out HDK.out j (by omega)
          obtain ⟨u_, cu_⟩ := HR.out.cell2 HVJ.out HDK.out i j (by omega) (by omega) (.int .u8 (dk[j]!.toNat : Int))
          have HV3 := Aside0.mk ((HR.out.swap HVJ.out i j (by rw [HDK.out]; omega) (by rw [HDK.out]; omega)).drewN 1)
          have li_ : i < N := by omega
          have lj_ : j < N := by omega
          obtain ⟨x_, hx_⟩ : ∃ x_, x_ = dk[i]!.toNat := ⟨_, rfl⟩
          obtain ⟨y_, hy_⟩ : ∃ y_, y_ = dk[j]!.toNat := ⟨_, rfl⟩
          rw [← hx_] at ci_
          rw [← hy_] at cj_ cu_
          rw [← hx_, ← hy_] at HV3
          clear hx_ hy_
          go_region
          have HV3 : Aside0 (SB w0 blk (swp dk i j) ((wc.setCell ⟨blk, i, none⟩ (.int .u8 (y_ : Int))).setCell ⟨blk, j, none⟩ (.int .u8 (x_ : Int))).drew) := HV3
          generalize ((wc.setCell ⟨blk, i, none⟩ (.int .u8 (y_ : Int))).setCell ⟨blk, j, none⟩ (.int .u8 (x_ : Int))).drew = V3 at HV3 ⊢
          clear ci_ cj_ fi_ fj_ cu_ li_ lj_
          have HD2 : Aside0 ((swp dk i j).size = N) := ⟨by rw [size_swp]; exact HDK.out⟩
          generalize swp dk i j = d2 at HST HV3 HD2
          go_wp2
          go_roundg (j0 + 1 - i0)
          case measure => omega
          case rel => exact ⟨i + 1, j - 1, d2, by first | rfl | go_num, congrArg (Value.int .i64) (by omega), by omega, by omega, by omega, by omega, HD2, ⟨HST.out.1⟩, ⟨HST.out.2.1⟩, ⟨HST.out.2.2.1⟩, ⟨HST.out.2.2.2⟩, HV3⟩
end Go.Proofs.YtoieadofldkccaaDoor.Bytes
namespace Go.Proofs.YtoieadofldkccaaDoor.Bytes
open Go.RowKit Go.Sort Go.Proofs Go.Proofs.YtoieadofldkccaaDoorW.PrintWords Go.Proofs.YtoieadofldkccaaDoorW.PrintLast Go.Proofs.YtoieadofldkccaaDoorW.PrintMore
set_option linter.unusedVariables false
set_option linter.unusedSimpArgs false

/-- the child that is greater -/
def kid (hi first root : Nat) (d : Array UInt8) : Bool := decide (2 * root + 1 + 1 < hi) && ltB d[first + (2 * root + 1)]! d[first + (2 * root + 1) + 1]!
theorem sift_leaf {hi first root : Nat} {d : Array UInt8} (h : ¬ 2 * root + 1 < hi) : siftDown ltB hi first root d = d := by
  rw [siftDown, dif_pos (by omega)]
theorem sift_right {hi first root : Nat} {d : Array UInt8} (h : 2 * root + 1 < hi) (k : kid hi first root d = true) :
    siftDown ltB hi first root d = if ltB d[first + root]! d[first + (2 * root + 1 + 1)]! = true then siftDown ltB hi first (2 * root + 1 + 1) (swp d (first + root) (first + (2 * root + 1 + 1))) else d := by
  have k2 := k
  unfold kid at k2
  rw [Bool.and_eq_true, decide_eq_true_iff] at k2
  rw [siftDown, dif_neg (by omega), if_pos (by rw [Bool.and_eq_true, decide_eq_true_iff]; exact k2)]
  cases h2 : ltB d[first + root]! d[first + (2 * root + 2)]! with
  | true => rw [if_neg (by simp), dif_pos k2.1, if_pos rfl]
  | false => rw [if_pos (by simp), if_neg (by simp)]
theorem sift_left {hi first root : Nat} {d : Array UInt8} (h : 2 * root + 1 < hi) (k : kid hi first root d = false) :
    siftDown ltB hi first root d = if ltB d[first + root]! d[first + (2 * root + 1)]! = true then siftDown ltB hi first (2 * root + 1) (swp d (first + root) (first + (2 * root + 1))) else d := by
  have k2 := k
  unfold kid at k2
  rw [siftDown, dif_neg (by omega), if_neg (by rw [k2]; simp)]
  cases h2 : ltB d[first + root]! d[first + (2 * root + 1)]! with
  | true => rw [if_neg (by simp), if_pos rfl]
  | false => rw [if_pos (by simp), if_neg (by simp)]

set_option maxRecDepth 100000 in
set_option maxHeartbeats 4000000 in
theorem sift_any {w0 : World} {blk N : Nat} (R : Base w0 blk N) (hN : N ≤ 4000000) (cap lo hi first : Nat) (d : Array UInt8) (hd : d.size = N) (hb : first + hi ≤ N) (hlo : lo ≤ N) (w : World) (S : SB w0 blk d w) :
    Calls Tryd.prog 131 #[.slice (some ⟨blk, 0, none⟩) N cap, .int .i64 lo, .int .i64 hi, .int .i64 first] w fun e w' => e = .returned (.tuple #[]) ∧ SB w0 blk (siftDown ltB hi first lo d) w' := by
  have HR := Aside0.mk R
  have HS := Aside0.mk S
  have HD := Aside0.mk hd
  clear R S hd
  go_enter Tryd.func131, Tryd.ntmps131
  go_wp2
  go_loopg [8] (hi + 1) (fun gg v8 wr => ∃ (root : Nat) (dk : Array UInt8), v8 = .int .i64 root ∧ root ≤ N ∧ hi - root < gg ∧ Aside0 (dk.size = N) ∧ Aside0 (siftDown ltB hi first root dk = siftDown ltB hi first lo d) ∧ Aside0 (SB w0 blk dk wr)) 
  case atStart => exact ⟨lo, d, rfl, hlo, by omega, HD, ⟨rfl⟩, HS⟩
  case round =>
    rename World => V1
    obtain ⟨root, dk, rfl, r1, r2, HDK, HO, HV⟩ := hrel
    by_cases h1 : 2 * root + 1 < hi
    · have H1 := Aside0.mk h1
      have h1z : ((hi : Int) ≤ 2 * (root : Int) + 1) = False := by simp; omega
      go_upto_region 3 with fail
      go_cut [36] (fun vt wc => ∃ t : Bool, vt = .bool t ∧ Aside0 (kid hi first root dk = t) ∧ Aside0 (t = true → 2 * root + 1 + 1 < hi) ∧ Aside0 (SB w0 blk dk wc))
      case first =>
        obtain ⟨c, hc⟩ : ∃ c, c = 2 * root + 1 := ⟨_, rfl⟩
        have zc : 2 * (root : Int) + 1 = (c : Int) := by omega
        have HC := Aside0.mk hc
        have hcN : first + c < N := by omega
        by_cases h2 : c + 1 < hi
        · have h2z : ((c : Int) + 1 < (hi : Int)) = True := by simp; omega
          have hc2N : first + c + 1 < N := by omega
          have ec1 : ((first : Int) + (c : Int)).toNat = first + c := by omega
          have ec2 : ((first : Int) + (c : Int) + 1).toNat = first + c + 1 := by omega
          have c1 := HR.out.cell HV.out HDK.out (first + c) hcN
          have c2 := HR.out.cell HV.out HDK.out (first + c + 1) hc2N
          by_cases hl : ltB dk[first + c]! dk[first + c + 1]! = true
          · have HK : Aside0 (kid hi first root dk = true) := ⟨by unfold kid; rw [← HC.out, hl, decide_eq_true h2]; rfl⟩
            have HLS := Aside0.mk (fun W => less_yes _ _ (ltB_true.1 hl) W)
            clear hl hc
            generalize dk[first + c]!.toNat = x1 at c1 HLS
            generalize dk[first + c + 1]!.toNat = x2 at c2 HLS
            go_wp2
            go_quiet (first | (go_at_call 120; refine Calls.quiet_of_same (HLS.out _)))
            go_wp2
            go_meet
            case rel => exact ⟨true, rfl, HK, ⟨fun _ => by rw [← HC.out]; exact h2⟩, ⟨HV.out.drewN _⟩⟩
          · have hl2 : ltB dk[first + c]! dk[first + c + 1]! = false := by simpa using hl
            have HK : Aside0 (kid hi first root dk = false) := ⟨by unfold kid; rw [← HC.out, hl2]; simp⟩
            have HLS := Aside0.mk (fun W => less_no _ _ (ltB_false.1 hl2) W)
            clear hl hl2 hc
            generalize dk[first + c]!.toNat = x1 at c1 HLS
            generalize dk[first + c + 1]!.toNat = x2 at c2 HLS
            go_wp2
            go_quiet (first | (go_at_call 120; refine Calls.quiet_of_same (HLS.out _)))
            go_wp2
            go_meet
            case rel => exact ⟨false, rfl, HK, ⟨fun h => by cases h⟩, ⟨HV.out.drewN _⟩⟩
        · have h2z : ((c : Int) + 1 < (hi : Int)) = False := by simp; omega
          have HK : Aside0 (kid hi first root dk = false) := ⟨by unfold kid; rw [← HC.out, decide_eq_false h2]; rfl⟩
          clear hc
          go_wp2
          go_quiet (first | (go_at_call 120; refine Calls.quiet_of_same (less_any _ _ _)))
          go_wp2
          go_meet
          case rel => exact ⟨false, rfl, HK, ⟨fun h => by cases h⟩, ⟨HV.out.drewN _⟩⟩
      case rest =>
        obtain ⟨t, rfl, HK, HK2, HVI⟩ := hcut
        cases t with
        | true =>
          have h2 := HK2.out rfl
          go_upto_region 5 with fail
          obtain ⟨c, hc⟩ : ∃ c, c = 2 * root + 1 + 1 := ⟨_, rfl⟩
          have HC := Aside0.mk hc
          have zc : 2 * (root : Int) + 1 + 1 = (c : Int) := by omega
          have zc0 : 2 * (root : Int) + 1 = (c : Int) - 1 := by omega
          have hchi : c < hi := by omega
          have hcr : root < c := by omega
          clear hc h1 h1z h2
          rw [zc, zc0]
          clear zc zc0
          have hcN : first + c < N := by omega
          have ec1 : ((first : Int) + (c : Int)).toNat = first + c := by omega
          have er1 : ((first : Int) + (root : Int)).toNat = first + root := by omega
          have hrN : first + root < N := by omega
          by_cases hl : ltB dk[first + root]! dk[first + c]! = true
          · have HE : Aside0 (siftDown ltB hi first c (swp dk (first + root) (first + c)) = siftDown ltB hi first lo d) := ⟨by rw [← HO.out, sift_right H1.out HK.out, ← HC.out, if_pos hl]⟩
            have HLS := Aside0.mk (fun W => less_yes _ _ (ltB_true.1 hl) W)
            clear hl
            have cr := HR.out.cell HVI.out HDK.out (first + root) hrN
            have cc := HR.out.cell HVI.out HDK.out (first + c) hcN
            generalize dk[first + root]!.toNat = xr at cr HLS
            generalize dk[first + c]!.toNat = xc at cc HLS
            go_wp2
            go_quiet (first | (go_at_call 120; refine Calls.quiet_of_same (HLS.out _)))
            go_wp2
            have HVJ := Aside0.mk (HVI.out.drewN nq)
            generalize World.drewN wc nq = VJ at HVJ ⊢
            clear cr cc HLS
            obtain ⟨r2, hr2⟩ : ∃ r2, r2 = first + root := ⟨_, rfl⟩
            obtain ⟨c2, hc2⟩ : ∃ c2, c2 = first + c := ⟨_, rfl⟩
            have z1 : (first : Int) + (root : Int) = (r2 : Int) := by omega
            have z2 : (first : Int) + (c : Int) = (c2 : Int) := by omega
            rw [← hr2, ← hc2] at HE
            rw [← hr2] at hrN er1
            rw [← hc2] at hcN ec1
            clear hr2 hc2 er1 ec1
            have ci_ := HR.out.cell HVJ.out HDK.out r2 (by omega)
            have cj_ := HR.out.cell HVJ.out HDK.out c2 (by omega)
            have fi_ := HR.out.frozen HVJ.out HDK.out r2 (by omega)
            have fj_ := HR.out.frozen HVJ.out HDK.out c2 (by omega)
            obtain ⟨u_, cu_⟩ := HR.out.cell2 HVJ.out HDK.out r2 c2 (by omega) (by omega) (.int .u8 (dk[c2]!.toNat : Int))
            have HV3 := Aside0.mk ((HR.out.swap HVJ.out r2 c2 (by rw [HDK.out]; omega) (by rw [HDK.out]; omega)).drewN 1)
            have li_ : r2 < N := by omega
            have lj_ : c2 < N := by omega
            obtain ⟨x_, hx_⟩ : ∃ x_, x_ = dk[r2]!.toNat := ⟨_, rfl⟩
            obtain ⟨y_, hy_⟩ : ∃ y_, y_ = dk[c2]!.toNat := ⟨_, rfl⟩
            rw [← hx_] at ci_
            rw [← hy_] at cj_ cu_
            rw [← hx_, ← hy_] at HV3
            clear hx_ hy_
            go_region
            have HV3 : Aside0 (SB w0 blk (swp dk r2 c2) ((VJ.setCell ⟨blk, r2, none⟩ (.int .u8 (y_ : Int))).setCell ⟨blk, c2, none⟩ (.int .u8 (x_ : Int))).drew) := HV3
            generalize ((VJ.setCell ⟨blk, r2, none⟩ (.int .u8 (y_ : Int))).setCell ⟨blk, c2, none⟩ (.int .u8 (x_ : Int))).drew = V3 at HV3 ⊢
            clear ci_ cj_ fi_ fj_ cu_ li_ lj_
            have HD2 : Aside0 ((swp dk r2 c2).size = N) := ⟨by rw [size_swp]; exact HDK.out⟩
            clear z1 z2
            go_wp2
            go_roundg (hi - root)
            case measure => omega
            case rel => exact ⟨c, swp dk r2 c2, by first | rfl | go_num, by omega, by omega, HD2, HE, HV3⟩
          · have hl2 : ltB dk[first + root]! dk[first + c]! = false := by simpa using hl
            have HE : Aside0 (dk = siftDown ltB hi first lo d) := ⟨by rw [← HO.out, sift_right H1.out HK.out, ← HC.out, if_neg hl]⟩
            have HLS := Aside0.mk (fun W => less_no _ _ (ltB_false.1 hl2) W)
            clear hl hl2
            have cr := HR.out.cell HVI.out HDK.out (first + root) hrN
            have cc := HR.out.cell HVI.out HDK.out (first + c) hcN
            generalize dk[first + root]!.toNat = xr at cr HLS
            generalize dk[first + c]!.toNat = xc at cc HLS
            go_wp2
            go_quiet (first | (go_at_call 120; refine Calls.quiet_of_same (HLS.out _)))
            go_wp2
            refine bodyPost_ret (results_none rfl _ _ _) rfl ?_
            exact ⟨rfl, by rw [← HE.out]; exact HVI.out.drewN _⟩
        | false =>
          go_upto_region 5 with fail
          obtain ⟨c, hc⟩ : ∃ c, c = 2 * root + 1 := ⟨_, rfl⟩
          have HC := Aside0.mk hc
          have zc : 2 * (root : Int) + 1 = (c : Int) := by omega
          have hchi : c < hi := by omega
          have hcr : root < c := by omega
          clear hc h1 h1z
          rw [zc]
          clear zc
          have hcN : first + c < N := by omega
          have ec1 : ((first : Int) + (c : Int)).toNat = first + c := by omega
          have er1 : ((first : Int) + (root : Int)).toNat = first + root := by omega
          have hrN : first + root < N := by omega
          by_cases hl : ltB dk[first + root]! dk[first + c]! = true
          · have HE : Aside0 (siftDown ltB hi first c (swp dk (first + root) (first + c)) = siftDown ltB hi first lo d) := ⟨by rw [← HO.out, sift_left H1.out HK.out, ← HC.out, if_pos hl]⟩
            have HLS := Aside0.mk (fun W => less_yes _ _ (ltB_true.1 hl) W)
            clear hl
            have cr := HR.out.cell HVI.out HDK.out (first + root) hrN
            have cc := HR.out.cell HVI.out HDK.out (first + c) hcN
            generalize dk[first + root]!.toNat = xr at cr HLS
            generalize dk[first + c]!.toNat = xc at cc HLS
            go_wp2
            go_quiet (first | (go_at_call 120; refine Calls.quiet_of_same (HLS.out _)))
            go_wp2
            have HVJ := Aside0.mk (HVI.out.drewN nq)
            generalize World.drewN wc nq = VJ at HVJ ⊢
            clear cr cc HLS
            obtain ⟨r2, hr2⟩ : ∃ r2, r2 = first + root := ⟨_, rfl⟩
            obtain ⟨c2, hc2⟩ : ∃ c2, c2 = first + c := ⟨_, rfl⟩
            have z1 : (first : Int) + (root : Int) = (r2 : Int) := by omega
            have z2 : (first : Int) + (c : Int) = (c2 : Int) := by omega
            rw [← hr2, ← hc2] at HE
            rw [← hr2] at hrN er1
            rw [← hc2] at hcN ec1
            clear hr2 hc2 er1 ec1
            have ci_ := HR.out.cell HVJ.out HDK.out r2 (by omega)
            have cj_ := HR.out.cell HVJ.out HDK.out c2 (by omega)
            have fi_ := HR.out.frozen HVJ.out HDK.out r2 (by omega)
            have fj_ := HR.out.frozen HVJ.out HDK.out c2 (by omega)
            obtain ⟨u_, cu_⟩ := HR.out.cell2 HVJ.out HDK.out r2 c2 (by omega) (by omega) (.int .u8 (dk[c2]!.toNat : Int))
            have HV3 := Aside0.mk ((HR.out.swap HVJ.out r2 c2 (by rw [HDK.out]; omega) (by rw [HDK.out]; omega)).drewN 1)
            have li_ : r2 < N := by omega
            have lj_ : c2 < N := by omega
            obtain ⟨x_, hx_⟩ : ∃ x_, x_ = dk[r2]!.toNat := ⟨_, rfl⟩
            obtain ⟨y_, hy_⟩ : ∃ y_, y_ = dk[c2]!.toNat := ⟨_, rfl⟩
            rw [← hx_] at ci_
            rw [← hy_] at cj_ cu_
            rw [← hx_, ← hy_] at HV3
            clear hx_ hy_
            go_region
            have HV3 : Aside0 (SB w0 blk (swp dk r2 c2) ((VJ.setCell ⟨blk, r2, none⟩ (.int .u8 (y_ : Int))).setCell ⟨blk, c2, none⟩ (.int .u8 (x_ : Int))).drew) := HV3
            generalize ((VJ.setCell ⟨blk, r2, none⟩ (.int .u8 (y_ : Int))).setCell ⟨blk, c2, none⟩ (.int .u8 (x_ : Int))).drew = V3 at HV3 ⊢
            clear ci_ cj_ fi_ fj_ cu_ li_ lj_
            have HD2 : Aside0 ((swp dk r2 c2).size = N) := ⟨by rw [size_swp]; exact HDK.out⟩
            clear z1 z2
            go_wp2
            go_roundg (hi - root)
            case measure => omega
            case rel => exact ⟨c, swp dk r2 c2, by first | rfl | go_num, by omega, by omega, HD2, HE, HV3⟩
          · have hl2 : ltB dk[first + root]! dk[first + c]! = false := by simpa using hl
            have HE : Aside0 (dk = siftDown ltB hi first lo d) := ⟨by rw [← HO.out, sift_left H1.out HK.out, ← HC.out, if_neg hl]⟩
            have HLS := Aside0.mk (fun W => less_no _ _ (ltB_false.1 hl2) W)
            clear hl hl2
            have cr := HR.out.cell HVI.out HDK.out (first + root) hrN
            have cc := HR.out.cell HVI.out HDK.out (first + c) hcN
            generalize dk[first + root]!.toNat = xr at cr HLS
            generalize dk[first + c]!.toNat = xc at cc HLS
            go_wp2
            go_quiet (first | (go_at_call 120; refine Calls.quiet_of_same (HLS.out _)))
            go_wp2
            refine bodyPost_ret (results_none rfl _ _ _) rfl ?_
            exact ⟨rfl, by rw [← HE.out]; exact HVI.out.drewN _⟩
    · have h1z : ((hi : Int) ≤ 2 * (root : Int) + 1) = True := by simp; omega
      go_wp2
      go_end0
      exact ⟨rfl, by rw [← HO.out, sift_leaf h1]; exact HV.out⟩

theorem sift_size (hi first : Nat) : ∀ (n root : Nat) (d : Array UInt8), hi - root ≤ n → (siftDown ltB hi first root d).size = d.size := by
  intro n
  induction n with
  | zero => intro root d h; rw [sift_leaf (by omega)]
  | succ n ih =>
    intro root d h
    by_cases h1 : 2 * root + 1 < hi
    · cases k : kid hi first root d with
      | true =>
        rw [sift_right h1 k]
        split
        · rw [ih _ _ (by omega), size_swp]
        · rfl
      | false =>
        rw [sift_left h1 k]
        split
        · rw [ih _ _ (by omega), size_swp]
        · rfl
    · rw [sift_leaf h1]

set_option maxRecDepth 100000 in
set_option maxHeartbeats 4000000 in
theorem heap_any {w0 : World} {blk N : Nat} (R : Base w0 blk N) (hN : N ≤ 4000000) (cap a b : Nat) (d : Array UInt8) (hd : d.size = N) (hab : a < b) (hb : b ≤ N) (w : World) (S : SB w0 blk d w) :
    Calls Tryd.prog 115 #[.slice (some ⟨blk, 0, none⟩) N cap, .int .i64 a, .int .i64 b] w fun e w' => e = .returned (.tuple #[]) ∧ SB w0 blk (heapSort ltB d a b) w' := by
  have HR := Aside0.mk R
  have HS := Aside0.mk S
  have HD := Aside0.mk hd
  have HSI := Aside0.mk (fun (lo hi : Nat) (dk : Array UInt8) (h1 : dk.size = N) (h2 : a + hi ≤ N) (h3 : lo ≤ N) W (h4 : SB w0 blk dk W) => sift_any R hN cap lo hi a dk h1 h2 h3 W h4)
  clear R S hd
  obtain ⟨h, hh⟩ : ∃ h, b = a + h := ⟨b - a, by omega⟩
  have hz : (b : Int) - (a : Int) = (h : Int) := by omega
  have h0 : 0 < h := by omega
  have HV : Aside0 (heapSort ltB d a b = heapPop ltB a h (heapBuild ltB h a ((h - 1) / 2 + 1) d)) := ⟨by unfold heapSort; rw [show b - a = h by omega]⟩
  rw [HV.out]
  have hbN : a + h ≤ N := by omega
  have hq : ((h : Int) - 1).tdiv 2 = (((h - 1) / 2 : Nat) : Int) := by rw [Int.tdiv_eq_ediv_of_nonneg (by omega)]; omega
  have hq2 : ((h : Int) - 1) / 2 = (((h - 1) / 2 : Nat) : Int) := by omega
  obtain ⟨q, hqq⟩ : ∃ q, q = (h - 1) / 2 := ⟨_, rfl⟩
  have hqh : q < h := by omega
  rw [← hqq] at hq hq2 ⊢
  clear hqq hh HV
  go_enter Tryd.func115, Tryd.ntmps115
  go_wp2
  go_loopg [9] (q + 2) (fun gg v9 wr => ∃ (k : Nat) (dk : Array UInt8), v9 = .int .i64 ((k : Int) - 1) ∧ k ≤ q + 1 ∧ k < gg ∧ Aside0 (dk.size = N) ∧ Aside0 (heapBuild ltB h a k dk = heapBuild ltB h a (q + 1) d) ∧ Aside0 (SB w0 blk dk wr))
  case atStart => exact ⟨q + 1, d, congrArg (Value.int .i64) (by omega), by omega, by omega, HD, ⟨rfl⟩, HS⟩
  case round =>
    rename World => V1
    obtain ⟨k, dk, rfl, k1, k2, HDK, HO, HV⟩ := hrel
    by_cases hk : 0 < k
    · obtain ⟨j, rfl⟩ : ∃ j, k = j + 1 := ⟨k - 1, by omega⟩
      have zj : ((j : Int) + 1 - 1) = (j : Int) := by omega
      have HO2 : Aside0 (heapBuild ltB h a j (siftDown ltB h a j dk) = heapBuild ltB h a (q + 1) d) := ⟨by rw [← HO.out, heapBuild]⟩
      have HDS : Aside0 ((siftDown ltB h a j dk).size = N) := ⟨by rw [sift_size h a (h - j) j dk (Nat.le_refl _)]; exact HDK.out⟩
      go_wp2_with (go_at_call 131; refine (HSI.out j h dk HDK.out (by omega) (by omega) _ HV.out).mono ?_; rintro e w2 ⟨rfl, HV2⟩)
      go_roundg (j + 1)
      case measure => omega
      case rel => exact ⟨j, siftDown ltB h a j dk, by first | rfl | go_num, by omega, by omega, HDS, HO2, ⟨HV2⟩⟩
    · obtain rfl : k = 0 := by omega
      have HO3 : Aside0 (dk = heapBuild ltB h a (q + 1) d) := ⟨by rw [← HO.out, heapBuild]⟩
      go_wp2
      go_loopg [10] (h + 1) (fun gg v10 wr => ∃ (k : Nat) (dj : Array UInt8), v10 = .int .i64 ((k : Int) - 1) ∧ k ≤ h ∧ k < gg ∧ Aside0 (dj.size = N) ∧ Aside0 (heapPop ltB a k dj = heapPop ltB a h dk) ∧ Aside0 (SB w0 blk dj wr))
      case atStart => exact ⟨h, dk, by first | rfl | go_num, by omega, by omega, HDK, ⟨rfl⟩, HV⟩
      case round =>
        rename World => V2
        obtain ⟨k, dj, rfl, j1, j2, HDJ, HOJ, HVJ⟩ := hrel
        by_cases hk : 0 < k
        · obtain ⟨j, rfl⟩ : ∃ j, k = j + 1 := ⟨k - 1, by omega⟩
          have zj : ((j : Int) + 1 - 1) = (j : Int) := by omega
          obtain ⟨r2, hr2⟩ : ∃ r2, r2 = a + j := ⟨_, rfl⟩
          have zr : (a : Int) + (j : Int) = (r2 : Int) := by omega
          have hrN : r2 < N := by omega
          have HO2 : Aside0 (heapPop ltB a j (siftDown ltB j a 0 (swp dj a r2)) = heapPop ltB a h dk) := ⟨by rw [← HOJ.out, heapPop, hr2]⟩
          have HDS : Aside0 ((siftDown ltB j a 0 (swp dj a r2)).size = N) := ⟨by rw [sift_size j a (j - 0) 0 _ (Nat.le_refl _), size_swp]; exact HDJ.out⟩
          have HD3 : Aside0 ((swp dj a r2).size = N) := ⟨by rw [size_swp]; exact HDJ.out⟩
          clear hr2
          go_wp2
          have ci_ := HR.out.cell HVJ.out HDJ.out a (by omega)
          have cj_ := HR.out.cell HVJ.out HDJ.out r2 (by omega)
          have fi_ := HR.out.frozen HVJ.out HDJ.out a (by omega)
          have fj_ := HR.out.frozen HVJ.out HDJ.out r2 (by omega)
          obtain ⟨u_, cu_⟩ := HR.out.cell2 HVJ.out HDJ.out a r2 (by omega) (by omega) (.int .u8 (dj[r2]!.toNat : Int))
          have HV3 := Aside0.mk ((HR.out.swap HVJ.out a r2 (by rw [HDJ.out]; omega) (by rw [HDJ.out]; omega)).drewN 1)
          have li_ : a < N := by omega
          have lj_ : r2 < N := by omega
          obtain ⟨x_, hx_⟩ : ∃ x_, x_ = dj[a]!.toNat := ⟨_, rfl⟩
          obtain ⟨y_, hy_⟩ : ∃ y_, y_ = dj[r2]!.toNat := ⟨_, rfl⟩
          rw [← hx_] at ci_
          rw [← hy_] at cj_ cu_
          rw [← hx_, ← hy_] at HV3
          clear hx_ hy_
          go_region
          have HV3 : Aside0 (SB w0 blk (swp dj a r2) ((V2.setCell ⟨blk, a, none⟩ (.int .u8 (y_ : Int))).setCell ⟨blk, r2, none⟩ (.int .u8 (x_ : Int))).drew) := HV3
          generalize ((V2.setCell ⟨blk, a, none⟩ (.int .u8 (y_ : Int))).setCell ⟨blk, r2, none⟩ (.int .u8 (x_ : Int))).drew = V3 at HV3 ⊢
          clear ci_ cj_ fi_ fj_ cu_ li_ lj_
          go_wp2_with (go_at_call 131; refine (HSI.out 0 j _ HD3.out (by omega) (by omega) _ HV3.out).mono ?_; rintro e w2 ⟨rfl, HV2⟩)
          go_roundg (j + 1)
          case measure => omega
          case rel => exact ⟨j, _, by first | rfl | go_num, by omega, by omega, HDS, HO2, ⟨HV2⟩⟩
        · obtain rfl : k = 0 := by omega
          have HO4 : Aside0 (dj = heapPop ltB a h dk) := ⟨by rw [← HOJ.out, heapPop]⟩
          go_wp2
          go_end0
          exact ⟨rfl, by rw [← HO3.out, ← HO4.out]; exact HVJ.out⟩
end Go.Proofs.YtoieadofldkccaaDoor.Bytes
namespace Go.Proofs.YtoieadofldkccaaDoor.Bytes
open Go.RowKit Go.Sort Go.Proofs Go.Proofs.YtoieadofldkccaaDoorW.PrintWords Go.Proofs.YtoieadofldkccaaDoorW.PrintLast Go.Proofs.YtoieadofldkccaaDoorW.PrintMore
set_option linter.unusedVariables false
set_option linter.unusedSimpArgs false

/-- block c, new against w0, holds a number of 64 bits -/
structure Rnd (w0 : World) (blk : Nat) (d : Array UInt8) (c X : Nat) (W : World) : Prop where
  sb : SB w0 blk d W
  cell : W.cell? ⟨c, 0, none⟩ = some (.int .u64 X)
  fr : W.frozen? ⟨c, 0, none⟩ = false
  new : w0.heap.size ≤ c
  lt : X < 18446744073709551616
theorem Rnd.drewN {w0 W : World} {blk c s : Nat} {d : Array UInt8} (h : Rnd w0 blk d c s W) (n : Nat) : Rnd w0 blk d c s (W.drewN n) := ⟨h.sb.drewN n, h.cell, h.fr, h.new, h.lt⟩
theorem Rnd.put {w0 W : World} {blk c s : Nat} {d : Array UInt8} (h : Rnd w0 blk d c s W) (t : Nat) (ht : t < 18446744073709551616) : Rnd w0 blk d c t (W.setCell ⟨c, 0, none⟩ (.int .u64 t)) :=
  ⟨h.sb.setNew c 0 _ h.new, World.cell?_setCell_same _ _ _ h.cell, by rw [World.frozen?_setCell]; exact h.fr, h.new, ht⟩
theorem Rnd.start {w0 W : World} {blk : Nat} {d : Array UInt8} (h : SB w0 blk d W) (t : TypeId) (X : Nat) (hX : X < 18446744073709551616) : Rnd w0 blk d W.heap.size X (W.alloc (.cells #[.int .u64 X] t)) :=
  ⟨h.alloc _, by simp, by simp, SW.le h.sw, hX⟩

theorem xor_is (X : Nat) (Z : Int) (hX : X < 18446744073709551616) (h0 : 0 ≤ Z) (h1 : Z < 18446744073709551616) : ∃ Y : Nat, bits .xor .u64 (X : Int) Z = (Y : Int) ∧ Y < 18446744073709551616 := by
  obtain ⟨z, rfl⟩ : ∃ z : Nat, Z = z := ⟨Z.toNat, by omega⟩
  exact ⟨X ^^^ z, bits_xor_u64_nat X z hX (by omega), Nat.xor_lt_two_pow (n := 64) (by omega) (by omega)⟩
theorem wrap_u64 (x : Int) : 0 ≤ IntKind.u64.wrap x ∧ IntKind.u64.wrap x < 18446744073709551616 := by rw [IntKind.wrap_u64]; omega

set_option maxHeartbeats 1000000 in
theorem next_any {w0 : World} {blk : Nat} {d : Array UInt8} (c X : Nat) (w : World) (h : Rnd w0 blk d c X w) :
    Calls Tryd.prog 133 #[.pointer (some ⟨c, 0, none⟩)] w fun e w' => ∃ Y : Nat, e = .returned (.int .u64 Y) ∧ Y < 18446744073709551616 ∧ Aside0 (Rnd w0 blk d c Y w') := by
  obtain ⟨A, e1, lA⟩ := xor_is X (IntKind.u64.wrap ((X : Int) * 8192)) h.lt (wrap_u64 _).1 (wrap_u64 _).2
  obtain ⟨B, e2, lB⟩ := xor_is A ((A : Int) / 128) lA (by omega) (by omega)
  obtain ⟨C, e3, lC⟩ := xor_is B (IntKind.u64.wrap ((B : Int) * 131072)) lB (wrap_u64 _).1 (wrap_u64 _).2
  have HA := Aside0.mk ((h.put A lA).drewN 1)
  have hc := h.cell
  have hf := h.fr
  clear h
  go_enter Tryd.func133, Tryd.ntmps133
  go_wp2
  go_region
  have HA : Aside0 (Rnd w0 blk d c A (w.setCell ⟨c, 0, none⟩ (.int .u64 A)).drew) := HA
  generalize (w.setCell ⟨c, 0, none⟩ (.int .u64 (A : Int))).drew = w1 at HA ⊢
  clear hc hf e1
  have hc := HA.out.cell
  have hf := HA.out.fr
  have HB := Aside0.mk ((HA.out.put B lB).drewN 1)
  go_wp2
  go_region
  have HB : Aside0 (Rnd w0 blk d c B (w1.setCell ⟨c, 0, none⟩ (.int .u64 B)).drew) := HB
  generalize (w1.setCell ⟨c, 0, none⟩ (.int .u64 (B : Int))).drew = w2 at HB ⊢
  clear hc hf e2
  have hc := HB.out.cell
  have hf := HB.out.fr
  have HC := Aside0.mk ((HB.out.put C lC).drewN 1)
  go_wp2
  go_region
  have HC : Aside0 (Rnd w0 blk d c C (w2.setCell ⟨c, 0, none⟩ (.int .u64 C)).drew) := HC
  generalize (w2.setCell ⟨c, 0, none⟩ (.int .u64 (C : Int))).drew = w3 at HC ⊢
  clear hc hf e3
  have hc := HC.out.cell
  go_wp2
  go_ret
  exact ⟨C, rfl, lC, HC⟩

theorem bitLen_64 : ∀ n : Fin 64, n.val ≠ 0 → Lib.bitLen n.val ≤ 6 ∧ n.val < 2 ^ Lib.bitLen n.val ∧ 2 ^ Lib.bitLen n.val ≤ 2 * n.val := by decide +kernel

set_option maxHeartbeats 1000000 in
theorem pow2_any (n : Nat) (hn : n < 64) (h0 : n ≠ 0) (w : World) : Calls Tryd.prog 132 #[.int .i64 n] w fun e w' => ∃ k : Nat, e = .returned (.int .u64 ((2 ^ k : Nat) : Int)) ∧ k ≤ 6 ∧ n < 2 ^ k ∧ 2 ^ k ≤ 2 * n ∧ w' = w := by
  have HL := Aside0.mk (Tryd.bits_Len (n : Int) w (by omega) (by omega))
  rw [Int.toNat_natCast] at HL
  obtain ⟨b1, b2, b3⟩ := bitLen_64 ⟨n, hn⟩ h0
  simp only at b1 b2 b3
  have HB := Aside0.mk (And.intro b2 b3)
  generalize Lib.bitLen n = k at HL b1 HB
  clear b2 b3
  have e6 : IntKind.u64.wrap ((2 : Int) ^ k) = ((2 ^ k : Nat) : Int) := by
    have h1 : 2 ^ k ≤ 64 := Nat.pow_le_pow_right (n := 2) (by omega) b1
    rw [IntKind.wrap_u64]
    have h2 : ((2 : Int) ^ k) = ((2 ^ k : Nat) : Int) := by simp
    rw [h2]
    generalize 2 ^ k = M at h1
    omega
  go_enter Tryd.func132, Tryd.ntmps132
  go_wp2_with (go_at_call 100; refine HL.out.mono ?_; rintro e w' ⟨rfl, rfl⟩)
  go_ret
  exact ⟨k, by first | rfl | (rw [← e6]; simp) | (simp [e6]), b1, HB.out.1, HB.out.2, rfl⟩

theorem Base.rnd {w0 W : World} {blk N c X : Nat} {d : Array UInt8} (h : Base w0 blk N) (s : Rnd w0 blk d c X W) (i j : Nat) (hi : i < d.size) (hj : j < d.size) :
    Rnd w0 blk (swp d i j) c X ((W.setCell ⟨blk, i, none⟩ (.int .u8 (d[j]!.toNat : Int))).setCell ⟨blk, j, none⟩ (.int .u8 (d[i]!.toNat : Int))) := by
  have hs := h.swap s.sb i j hi hj
  obtain ⟨_, R, _⟩ := h
  have hb := R.hblk
  have hn := s.new
  refine ⟨hs, ?_, ?_, s.new, s.lt⟩
  · rw [World.cell?_setCell_far _ _ _ _ (show (blk : Nat) ≠ c by omega), World.cell?_setCell_far _ _ _ _ (show (blk : Nat) ≠ c by omega)]; exact s.cell
  · rw [World.frozen?_setCell, World.frozen?_setCell]; exact s.fr
theorem and_is (M Y : Nat) (h : ∃ k, k ≤ 6 ∧ M = 2 ^ k) (hY : Y < 18446744073709551616) : ∃ o : Nat, bits .and .u64 (Y : Int) ((M : Int) - 1) = (o : Int) ∧ o < M := by
  obtain ⟨k, hk, rfl⟩ := h
  have h1 : 2 ^ k ≤ 64 := Nat.pow_le_pow_right (n := 2) (by omega) hk
  have h0 : 0 < 2 ^ k := Nat.two_pow_pos k
  have e : (((2 ^ k : Nat) : Int) - 1) = ((2 ^ k - 1 : Nat) : Int) := by
    generalize 2 ^ k = M at h0; omega
  have hl : 2 ^ k - 1 < 18446744073709551616 := by
    generalize 2 ^ k = M at h1; omega
  refine ⟨Y % 2 ^ k, ?_, Nat.mod_lt _ h0⟩
  rw [e, bits_and_u64_nat Y _ hY hl, Nat.and_two_pow_sub_one_eq_mod]

set_option maxRecDepth 100000 in
set_option maxHeartbeats 4000000 in
theorem break_any {w0 : World} {blk N : Nat} (R : Base w0 blk N) (hN : N ≤ 4000000) (cap a b : Nat) (d : Array UInt8) (hd : d.size = N) (hb : b ≤ N) (h12 : a + 12 < b) (h50 : b < a + 50) (w : World) (S : SB w0 blk d w) :
    Calls Tryd.prog 116 #[.slice (some ⟨blk, 0, none⟩) N cap, .int .i64 a, .int .i64 b] w fun e w' => e = .returned (.tuple #[]) ∧ ∃ d', Aside0 (PermIn a b d d') ∧ SB w0 blk d' w' := by
  have HR := Aside0.mk R
  have HD := Aside0.mk hd
  have HBD : Aside0 (b ≤ d.size) := ⟨by omega⟩
  obtain ⟨L, hL⟩ : ∃ L, L = b - a := ⟨_, rfl⟩
  have hLz : (b : Int) - a = (L : Int) := by omega
  have HRN := Aside0.mk (Rnd.start S 116 L (by omega))
  obtain ⟨q, hq⟩ : ∃ q, q = L / 4 := ⟨_, rfl⟩
  have hq1 : (L : Int) / 4 = (q : Int) := by omega
  have hq2 : 3 ≤ q ∧ 4 * q ≤ L := by omega
  have hL8 : 12 < L ∧ L < 50 ∧ a + L ≤ N := by omega
  have hLb := Aside0.mk (show a + L = b by omega)
  have HPW : Aside0 (∀ W, Calls Tryd.prog 132 #[.int .i64 L] W fun e w' => ∃ M : Nat, e = .returned (.int .u64 (M : Int)) ∧ Aside0 (∃ k, k ≤ 6 ∧ M = 2 ^ k) ∧ L < M ∧ M ≤ 2 * L ∧ w' = W) := ⟨fun W => by
    refine (pow2_any L (by omega) (by omega) W).mono ?_
    rintro e w' ⟨k, rfl, k1, k2, k3, rfl⟩
    exact ⟨_, rfl, ⟨k, k1, rfl⟩, k2, k3, rfl⟩⟩
  have HNX := Aside0.mk (fun (c X : Nat) (dk : Array UInt8) W (h : Rnd w0 blk dk c X W) => next_any c X W h)
  clear R S hd hq hL
  go_enter Tryd.func116, Tryd.ntmps116
  go_wp2_with (go_at_call 132; refine (HPW.out _).mono ?_; rintro e w' ⟨M, rfl, HM, m1, m2, rfl⟩)
  generalize w.alloc (Obj.cells #[Value.int IntKind.u64 (L : Int)] 116) = w1 at HRN ⊢
  generalize w.heap.size = c at HRN ⊢
  have HAN := Aside0.mk (fun Y => and_is M Y HM.out)
  have HR0 : Aside0 (PermIn a b d d) := ⟨permIn_refl d a b⟩
  go_loopg [9] 4 (fun gg v9 wr => ∃ (i X : Nat) (dk : Array UInt8), v9 = .int .i64 i ∧ a + 2 * q - 1 ≤ i ∧ i ≤ a + 2 * q + 2 ∧ a + 2 * q + 2 - i < gg ∧ Aside0 (dk.size = N) ∧ Aside0 (PermIn a b d dk) ∧ Aside0 (Rnd w0 blk dk c X wr))
  case atStart => exact ⟨a + 2 * q - 1, L, d, congrArg (Value.int .i64) (by omega), by omega, by omega, by omega, HD, HR0, HRN⟩
  case round =>
    rename World => V1
    clear HRN HD HR0
    obtain ⟨i, X, dk, rfl, r1, r2, r3, HDK, HPM, HRN⟩ := hrel
    by_cases hi : i ≤ a + 2 * q + 1
    · have hiz : ((i : Int) ≤ (a : Int) + (q : Int) * 2 + 1) = True := by simp; omega
      go_upto_region 8 with (go_at_call 133; refine (HNX.out _ _ _ _ HRN.out).mono ?_; rintro e w' ⟨Y, rfl, lY, HRN2⟩; obtain ⟨o, ho, ho2⟩ := HAN.out Y lY)
      have lim : a + o < a + 2 * L := by omega
      by_cases hoL : L ≤ o
      · obtain ⟨p, rfl⟩ : ∃ p, o = L + p := ⟨o - L, by omega⟩
        have ezp : (L : Int) + p - L = p := by omega
        have hpN : a + p < b := by have := hLb.out; omega
        have ec1 : ((a : Int) + (p : Int)).toNat = a + p := by omega
        go_upto_region 10 with fail
        have HRNB := Aside0.mk HRN2.out.sb
        have ci_ := HR.out.cell HRNB.out HDK.out i (by omega)
        have cj_ := HR.out.cell HRNB.out HDK.out (a + p) (by omega)
        have fi_ := HR.out.frozen HRNB.out HDK.out i (by omega)
        have fj_ := HR.out.frozen HRNB.out HDK.out (a + p) (by omega)
        obtain ⟨u_, cu_⟩ := HR.out.cell2 HRNB.out HDK.out i (a + p) (by omega) (by omega) (.int .u8 (dk[(a + p)]!.toNat : Int))
        have HV3 := Aside0.mk ((HR.out.rnd HRN2.out i (a + p) (by rw [HDK.out]; omega) (by rw [HDK.out]; omega)).drewN 1)
        have li_ : i < N := by omega
        have lj_ : (a + p) < N := by omega
        obtain ⟨x_, hx_⟩ : ∃ x_, x_ = dk[i]!.toNat := ⟨_, rfl⟩
        obtain ⟨y_, hy_⟩ : ∃ y_, y_ = dk[(a + p)]!.toNat := ⟨_, rfl⟩
        rw [← hx_] at ci_
        rw [← hy_] at cj_ cu_
        rw [← hx_, ← hy_] at HV3
        clear hx_ hy_
        go_region
        have HV3 : Aside0 (Rnd w0 blk (swp dk i (a + p)) c Y ((w'.setCell ⟨blk, i, none⟩ (.int .u8 (y_ : Int))).setCell ⟨blk, (a + p), none⟩ (.int .u8 (x_ : Int))).drew) := HV3
        generalize ((w'.setCell ⟨blk, i, none⟩ (.int .u8 (y_ : Int))).setCell ⟨blk, (a + p), none⟩ (.int .u8 (x_ : Int))).drew = V3 at HV3 ⊢
        clear ci_ cj_ fi_ fj_ cu_ li_ lj_
        go_wp2
        go_roundg (a + 2 * q + 2 - i)
        case measure => omega
        case rel => exact ⟨i + 1, Y, swp dk i (a + p), by first | rfl | go_num, by omega, by omega, by omega, ⟨by rw [size_swp]; exact HDK.out⟩, ⟨perm_swap HPM.out HBD.out (by omega) (by omega) (by omega) hpN⟩, HV3⟩
      · have hpN : a + o < b := by have := hLb.out; omega
        have ec1 : ((a : Int) + (o : Int)).toNat = a + o := by omega
        go_upto_region 10 with fail
        have HRNB := Aside0.mk HRN2.out.sb
        have ci_ := HR.out.cell HRNB.out HDK.out i (by omega)
        have cj_ := HR.out.cell HRNB.out HDK.out (a + o) (by omega)
        have fi_ := HR.out.frozen HRNB.out HDK.out i (by omega)
        have fj_ := HR.out.frozen HRNB.out HDK.out (a + o) (by omega)
        obtain ⟨u_, cu_⟩ := HR.out.cell2 HRNB.out HDK.out i (a + o) (by omega) (by omega) (.int .u8 (dk[(a + o)]!.toNat : Int))
        have HV3 := Aside0.mk ((HR.out.rnd HRN2.out i (a + o) (by rw [HDK.out]; omega) (by rw [HDK.out]; omega)).drewN 1)
        have li_ : i < N := by omega
        have lj_ : (a + o) < N := by omega
        obtain ⟨x_, hx_⟩ : ∃ x_, x_ = dk[i]!.toNat := ⟨_, rfl⟩
        obtain ⟨y_, hy_⟩ : ∃ y_, y_ = dk[(a + o)]!.toNat := ⟨_, rfl⟩
        rw [← hx_] at ci_
        rw [← hy_] at cj_ cu_
        rw [← hx_, ← hy_] at HV3
        clear hx_ hy_
        go_region
        have HV3 : Aside0 (Rnd w0 blk (swp dk i (a + o)) c Y ((w'.setCell ⟨blk, i, none⟩ (.int .u8 (y_ : Int))).setCell ⟨blk, (a + o), none⟩ (.int .u8 (x_ : Int))).drew) := HV3
        generalize ((w'.setCell ⟨blk, i, none⟩ (.int .u8 (y_ : Int))).setCell ⟨blk, (a + o), none⟩ (.int .u8 (x_ : Int))).drew = V3 at HV3 ⊢
        clear ci_ cj_ fi_ fj_ cu_ li_ lj_
        go_wp2
        go_roundg (a + 2 * q + 2 - i)
        case measure => omega
        case rel => exact ⟨i + 1, Y, swp dk i (a + o), by first | rfl | go_num, by omega, by omega, by omega, ⟨by rw [size_swp]; exact HDK.out⟩, ⟨perm_swap HPM.out HBD.out (by omega) (by omega) (by omega) hpN⟩, HV3⟩
    · have hiz : ((i : Int) ≤ (a : Int) + (q : Int) * 2 + 1) = False := by simp; omega
      go_wp2
      go_end0
      exact ⟨rfl, dk, HPM, HRN.out.sb⟩
end Go.Proofs.YtoieadofldkccaaDoor.Bytes
namespace Go.Proofs.YtoieadofldkccaaDoor.Bytes
open Go.RowKit Go.Sort Go.Proofs Go.Proofs.YtoieadofldkccaaDoorW.PrintWords Go.Proofs.YtoieadofldkccaaDoorW.PrintLast Go.Proofs.YtoieadofldkccaaDoorW.PrintMore
set_option linter.unusedVariables false
set_option linter.unusedSimpArgs false

theorem go_eq {d d' : Array UInt8} {a b m P : Nat} (hp : PermIn a b d d') (hbd : b ≤ d.size) (hB : Below ltB a b d) (a0 : 0 < a) (hn : ¬ d[a - 1]!.toNat < P) (hle : ∀ x, a ≤ x → x < m → ¬ P < d'[x]!.toNat) (hgt : ∀ x, m ≤ x → x < b → P < d'[x]!.toNat) (am : a < m) (mb : m ≤ b) :
    Below ltB m b d' ∧ ∀ R, PermIn m b d' R → SortedIn ltB m b R → PermIn a b d R ∧ SortedIn ltB a b R := by
  have hge : ∀ x, a ≤ x → x < b → P ≤ d'[x]!.toNat := by
    refine permIn_all d d' a b (fun x => P ≤ x.toNat) hbd hp fun i h1 h2 => ?_
    rcases hB with h | h
    · omega
    · have := h i h1 h2
      rw [ltB_false] at this
      omega
  have hb2 : b ≤ d'.size := by rw [hp.1]; exact hbd
  refine ⟨.inr fun i h1 h2 => ?_, fun R hR hs => ⟨permIn_trans _ _ _ a b hp (permIn_mono _ _ m b a b (by omega) (Nat.le_refl _) hb2 hR), fun i j h1 h2 h3 => ?_⟩⟩
  · have := hgt i h1 h2
    have := hle (m - 1) (by omega) (by omega)
    rw [ltB_false]; omega
  · have gR := permIn_all d' R m b (fun x => P < x.toNat) hb2 hR hgt
    have eR : ∀ x, x < m → R[x]! = d'[x]! := fun x hx => hR.2.1 x (Or.inl hx)
    rcases Nat.lt_or_ge i m with hi | hi
    · have := hle i h1 hi
      rw [ltB_false, eR i hi]
      rcases Nat.lt_or_ge j m with hj | hj
      · have := hge j (by omega) h3
        rw [eR j hj]; omega
      · have : P < R[j]!.toNat := gR j hj h3
        omega
    · exact hs i j hi h2 h3

theorem go_left {d d' : Array UInt8} {a b m : Nat} (hp : PermIn a b d d') (hbd : b ≤ d.size) (hB : Below ltB a b d) (hlo : ∀ x, a ≤ x → x < m → d'[x]!.toNat < d'[m]!.toNat) (hhi : ∀ x, m < x → x < b → ¬ d'[x]!.toNat < d'[m]!.toNat) (am : a ≤ m) (mb : m < b) :
    Below ltB a m d' ∧ ∀ L, PermIn a m d' L → SortedIn ltB a m L → Below ltB (m + 1) b L ∧ ∀ R, PermIn (m + 1) b L R → SortedIn ltB (m + 1) b R → PermIn a b d R ∧ SortedIn ltB a b R := by
  have hb2 : b ≤ d'.size := by rw [hp.1]; exact hbd
  refine ⟨(hB.perm hbd hp).mono (by omega), fun L hL hsL => ?_⟩
  have hbL : b ≤ L.size := by rw [hL.1]; exact hb2
  have eL : ∀ x, m ≤ x → L[x]! = d'[x]! := fun x hx => hL.2.1 x (Or.inr hx)
  have loL := permIn_all d' L a m (fun x => x.toNat < d'[m]!.toNat) (by omega) hL hlo
  refine ⟨.inr fun i h1 h2 => ?_, fun R hR hsR => ⟨permIn_trans _ _ _ a b hp (permIn_trans _ _ _ a b (permIn_mono _ _ a m a b (Nat.le_refl _) (by omega) hb2 hL) (permIn_mono _ _ (m + 1) b a b (by omega) (Nat.le_refl _) hbL hR)), ?_⟩⟩
  · rw [Nat.add_sub_cancel, eL i (by omega), eL m (Nat.le_refl _), ltB_false]
    exact hhi i (by omega) h2
  · have eR : ∀ x, x ≤ m → R[x]! = L[x]! := fun x hx => hR.2.1 x (Or.inl (by omega))
    refine sorted_glue swoB (hsL.congr fun i _ hi => eR i (by omega)) hsR (fun i h1 h2 => ?_) (fun i h1 h2 => ?_)
    · rw [eR i (by omega), eR m (Nat.le_refl _), eL m (Nat.le_refl _), ltB_true]
      exact loL i h1 h2
    · rw [eR m (Nat.le_refl _), eL m (Nat.le_refl _), ltB_false]
      exact permIn_all L R (m + 1) b (fun x => ¬ x.toNat < d'[m]!.toNat) hbL hR (fun k h3 h4 => by rw [eL k (by omega)]; exact hhi k (by omega) h4) i (by omega) h2

theorem go_right {d d' : Array UInt8} {a b m : Nat} (hp : PermIn a b d d') (hbd : b ≤ d.size) (hB : Below ltB a b d) (hlo : ∀ x, a ≤ x → x < m → d'[x]!.toNat < d'[m]!.toNat) (hhi : ∀ x, m < x → x < b → ¬ d'[x]!.toNat < d'[m]!.toNat) (am : a ≤ m) (mb : m < b) :
    Below ltB (m + 1) b d' ∧ ∀ L, PermIn (m + 1) b d' L → SortedIn ltB (m + 1) b L → Below ltB a m L ∧ ∀ R, PermIn a m L R → SortedIn ltB a m R → PermIn a b d R ∧ SortedIn ltB a b R := by
  have hb2 : b ≤ d'.size := by rw [hp.1]; exact hbd
  refine ⟨.inr fun i h1 h2 => by rw [Nat.add_sub_cancel, ltB_false]; exact hhi i (by omega) h2, fun L hL hsL => ?_⟩
  have hbL : b ≤ L.size := by rw [hL.1]; exact hb2
  have eL : ∀ x, x ≤ m → L[x]! = d'[x]! := fun x hx => hL.2.1 x (Or.inl (by omega))
  have hiL := permIn_all d' L (m + 1) b (fun x => ¬ x.toNat < d'[m]!.toNat) hb2 hL (fun k h3 h4 => hhi k (by omega) h4)
  refine ⟨?_, fun R hR hsR => ⟨permIn_trans _ _ _ a b hp (permIn_trans _ _ _ a b (permIn_mono _ _ (m + 1) b a b (by omega) (Nat.le_refl _) hb2 hL) (permIn_mono _ _ a m a b (Nat.le_refl _) (by omega) hbL hR)), ?_⟩⟩
  · rcases (hB.perm hbd hp).mono (show m ≤ b by omega) with h | h
    · exact .inl h
    · exact .inr fun i h1 h2 => by rw [eL i (by omega), eL (a - 1) (by omega)]; exact h i h1 h2
  · have eR : ∀ x, m ≤ x → R[x]! = L[x]! := fun x hx => hR.2.1 x (Or.inr hx)
    refine sorted_glue swoB hsR (hsL.congr fun i hi _ => eR i (by omega)) (fun i h1 h2 => ?_) (fun i h1 h2 => ?_)
    · rw [eR m (Nat.le_refl _), eL m (Nat.le_refl _), ltB_true]
      exact permIn_all L R a m (fun x => x.toNat < d'[m]!.toNat) (by omega) hR (fun k h3 h4 => by rw [eL k (by omega)]; exact hlo k h3 h4) i h1 h2
    · rw [eR i (by omega), eR m (Nat.le_refl _), eL m (Nat.le_refl _), ltB_false]
      exact hiL i (by omega) h2

/-- what is left to be sorted: [x, y) of e; all of [a, b) of d is then -/
abbrev Goes (a b : Nat) (d : Array UInt8) (x y : Nat) (e : Array UInt8) : Prop := ∀ R, PermIn x y e R → SortedIn ltB x y R → PermIn a b d R ∧ SortedIn ltB a b R
theorem Goes.step {a b x y : Nat} {d e f : Array UInt8} (h : Goes a b d x y e) (hp : PermIn x y e f) : Goes a b d x y f := fun R h1 h2 => h R (permIn_trans _ _ _ _ _ hp h1) h2

def Sorts (w0 : World) (blk a b : Nat) (d : Array UInt8) (e : Ending) (w' : World) : Prop :=
  e = .returned (.tuple #[]) ∧ ∃ d', Aside0 (PermIn a b d d') ∧ Aside0 (SortedIn ltB a b d') ∧ Aside0 (SB w0 blk d' w')

set_option maxRecDepth 100000 in
set_option maxHeartbeats 8000000 in
theorem pdq_any {w0 : World} {blk N : Nat} (R : Base w0 blk N) (hN : N ≤ 4000000) (cap : Nat) : ∀ (n a b limit : Nat) (d : Array UInt8) (w : World), b - a < n → d.size = N → a ≤ b → b ≤ N → b < a + 50 → limit ≤ 64 → Below ltB a b d → SB w0 blk d w →
    Calls Tryd.prog 99 #[.slice (some ⟨blk, 0, none⟩) N cap, .int .i64 a, .int .i64 b, .int .i64 limit] w (Sorts w0 blk a b d) := by
  intro n
  induction n with
  | zero => intro a b limit d w h; omega
  | succ n ih =>
    intro a b limit d w hn hd hab hb h50 hlim hBel S
    have HIH := Aside0.mk ih
    have HR := Aside0.mk R
    have HD := Aside0.mk hd
    have HS := Aside0.mk S
    have HB0 := Aside0.mk hBel
    have HG0 : Aside0 (Goes a b d a b d) := ⟨fun R h1 h2 => ⟨h1, h2⟩⟩
    clear ih R hd S hBel
    go_enter Tryd.func99, Tryd.ntmps99
    go_wp2
    go_loopg [1, 2, 3, 8, 9] (b - a) (fun k s1 s2 s3 s8 s9 wr => ∃ (a' b' lim : Nat) (wb wp : Bool) (dk : Array UInt8), s1 = .int .i64 a' ∧ s2 = .int .i64 b' ∧ s3 = .int .i64 lim ∧ s8 = .bool wb ∧ s9 = .bool wp ∧
      a' ≤ b' ∧ b' ≤ b ∧ b' - a' ≤ k ∧ k ≤ b - a ∧ lim ≤ 64 ∧ a ≤ a' ∧ Aside0 (dk.size = N) ∧ Aside0 (Below ltB a' b' dk) ∧ Aside0 (Goes a b d a' b' dk) ∧ Aside0 (SB w0 blk dk wr))
    case atStart => exact ⟨a, b, limit, true, true, d, rfl, rfl, rfl, rfl, rfl, hab, Nat.le_refl _, Nat.le_refl _, Nat.le_refl _, hlim, Nat.le_refl _, HD, HB0, HG0, HS⟩
    case round =>
      rename World => V1
      clear HD HB0 HG0 HS hlim
      obtain ⟨a', b', lim, wb, wp, dk, rfl, rfl, rfl, rfl, rfl, hab', hb', hk, hkN, hlim, haa, HD, HB, HG, HV⟩ := hrel
      have HBD : Aside0 (b' ≤ dk.size) := ⟨by rw [HD.out]; omega⟩
      by_cases h12 : b' - a' ≤ 12
      · have h12z : (b' : Int) - (a' : Int) ≤ 12 := by omega
        have HC := Aside0.mk (fun (W : World) (SW : SB w0 blk dk W) => insertion_any HR.out hN cap a' b' dk HD.out hab' (by omega) W SW)
        go_wp2_with (go_at_call 114; refine (HC.out _ HV.out).mono ?_; rintro e w1 ⟨rfl, hw1⟩)
        (try simp only [Exit.inBlock, Exit.then]); refine bodyPost_ret (results_none rfl _ _ _) rfl ?_
        have := insertionSort_holds swoB dk a' b' hab' HBD.out
        obtain ⟨f1, f2⟩ := HG.out _ this.1 this.2
        exact ⟨rfl, _, ⟨f1⟩, ⟨f2⟩, ⟨hw1⟩⟩
      · have h12z : ¬ ((b' : Int) - (a' : Int) ≤ 12) := by omega
        by_cases hl0 : lim = 0
        · subst hl0
          have HC := Aside0.mk (fun (W : World) (SW : SB w0 blk dk W) => heap_any HR.out hN cap a' b' dk HD.out (by omega) (by omega) W SW)
          go_wp2_with (go_at_call 115; refine (HC.out _ HV.out).mono ?_; rintro e w1 ⟨rfl, hw1⟩)
          (try simp only [Exit.inBlock, Exit.then]); refine bodyPost_ret (results_none rfl _ _ _) rfl ?_
          have := heapSort_holds swoB dk a' b' hab' HBD.out
          obtain ⟨f1, f2⟩ := HG.out _ this.1 this.2
          exact ⟨rfl, _, ⟨f1⟩, ⟨f2⟩, ⟨hw1⟩⟩
        · have hl0z : ¬ ((lim : Int) = 0) := by omega
          go_upto_if 35 with fail
          go_cut [3] from 19 (fun s3 wc => ∃ (l2 : Nat) (d1 : Array UInt8), s3 = .int .i64 l2 ∧ l2 ≤ 64 ∧ Aside0 (PermIn a' b' dk d1) ∧ Aside0 (SB w0 blk d1 wc))
          case first =>
            cases wb
            · have HC := Aside0.mk (fun (W : World) (SW : SB w0 blk dk W) => break_any HR.out hN cap a' b' dk HD.out (by omega) (by omega) (by omega) W SW)
              go_wp2_with (go_at_call 116; refine (HC.out _ HV.out).mono ?_; rintro e w1 ⟨rfl, d1, hp1, hw1⟩)
              go_meet
              case rel => exact ⟨lim - 1, d1, congrArg (Value.int .i64) (by omega), by omega, hp1, ⟨hw1⟩⟩
            · go_wp2_with fail
              go_meet
              case rel => exact ⟨lim, dk, rfl, hlim, ⟨permIn_refl dk a' b'⟩, HV⟩
          case rest =>
            obtain ⟨l2, d1, rfl, hl2, HP1, HV1⟩ := hcut
            have HD1 : Aside0 (d1.size = N) := ⟨by rw [HP1.out.1]; exact HD.out⟩
            have HB1 : Aside0 (Below ltB a' b' d1) := ⟨HB.out.perm HBD.out HP1.out⟩
            have HG1 : Aside0 (Goes a b d a' b' d1) := ⟨Goes.step HG.out HP1.out⟩
            have HBD1 : Aside0 (b' ≤ d1.size) := ⟨by rw [HD1.out]; omega⟩
            clear HD HB HG HBD HP1 HV
            have HC := Aside0.mk (fun (W : World) (SW : SB w0 blk d1 W) => pivot_any HR.out hN cap a' b' d1 HD1.out (by omega) (by omega) (by omega) W SW)
            unfold Piv at HC
            go_upto_if 50 with (go_at_call 117; refine (HC.out _ HV1.out).mono ?_; rintro e w2 ⟨p, hint, rfl, p1, p2, hh, HV2⟩)
            have hne : ¬ (hint = 2) := by omega
            have hne2 : (hint == 2) = false := by rw [beq_eq_false_iff_ne]; exact hne
            go_upto_region 15 with fail
            go_cut [12, 68] from 19 (fun s12 s68 wx => s12 = .int .i64 hint ∧ ∃ t : Bool, s68 = .bool t ∧ wx = w2)
            case first =>
              cases wb <;> cases wp <;> rcases hh with rfl | rfl <;>
                (go_wp2_with fail
                 go_meet
                 case rel => exact ⟨rfl, _, rfl, rfl⟩)
            case rest =>
              obtain ⟨rfl, t, rfl, rfl⟩ := hcut
              go_upto_if 68 with fail
              go_cut [] from 19 (fun wx => Aside0 (SB w0 blk d1 wx))
              case first =>
                cases t
                · go_wp2_with fail
                  go_meet
                  case rel => exact HV2
                · have HC := Aside0.mk (fun (W : World) (SW : SB w0 blk d1 W) => partialIns_any HR.out hN cap a' b' d1 HD1.out (by omega) (by omega) (by omega) W SW)
                  go_wp2_with (go_at_call 119; refine (HC.out _ HV2.out).mono ?_; rintro e w3 ⟨r, rfl, hr, HV3⟩; cases r)
                  all_goals first
                    | (go_meet
                       exact HV3)
                    | ((try simp only [Exit.inBlock, Exit.then]); refine bodyPost_ret (results_none rfl _ _ _) rfl ?_
                       obtain ⟨f1, f2⟩ := HG1.out _ (permIn_refl d1 a' b') (hr.out (by first | exact trivial | rfl))
                       exact ⟨rfl, _, ⟨f1⟩, ⟨f2⟩, HV3⟩)
              case rest =>
                rename World => wd
                have HV3 : Aside0 (SB w0 blk d1 wd) := hcut
                clear HV1 HV2 HC hcut
                have hpN : p < N := by omega
                go_upto_region 17 with fail
                go_cut [87] from 19 (fun s87 wx => ∃ t : Bool, s87 = .bool t ∧ Aside0 (t = true → 0 < a' ∧ ¬ d1[a' - 1]!.toNat < d1[p]!.toNat) ∧ Aside0 (SB w0 blk d1 wx))
                case first =>
                  by_cases ha0 : a' = 0
                  · have ha0z : decide ((a' : Int) > 0) = false := decide_eq_false (by omega)
                    have ha0y : ¬ 0 < a' := by omega
                    have ha0x : ¬ (0 : Int) < (a' : Int) := by omega
                    clear ha0
                    go_quiet (first | (go_at_call 120; refine Calls.quiet_of_same (less_any _ _ _)))
                    go_wp2_with fail
                    go_meet
                    case rel => exact ⟨false, rfl, ⟨fun h => by cases h⟩, ⟨HV3.out.drewN _⟩⟩
                  · obtain ⟨q, hq⟩ : ∃ q, a' = q + 1 := ⟨a' - 1, by omega⟩
                    have hqz : (a' : Int) - 1 = (q : Int) := by omega
                    have hqN : q < N := by omega
                    have c1 := HR.out.cell HV3.out HD1.out q hqN
                    have c2 := HR.out.cell HV3.out HD1.out p hpN
                    have ha0y : 0 < a' := by omega
                    have ha0x : (0 : Int) < (a' : Int) := by omega
                    have HQ : Aside0 (a' - 1 = q) := ⟨by omega⟩
                    by_cases hl : d1[q]!.toNat < d1[p]!.toNat
                    · have HLS := Aside0.mk (fun W => less_yes _ _ hl W)
                      clear hl
                      generalize d1[q]!.toNat = x1 at c1 HLS
                      generalize d1[p]!.toNat = x2 at c2 HLS
                      clear hq
                      go_quiet (first | (go_at_call 120; refine Calls.quiet_of_same (HLS.out _)))
                      go_wp2_with fail
                      go_meet
                      case rel => exact ⟨false, rfl, ⟨fun h => by cases h⟩, ⟨HV3.out.drewN _⟩⟩
                    · have HLS := Aside0.mk (fun W => less_no _ _ hl W)
                      have HT : Aside0 (0 < a' ∧ ¬ d1[a' - 1]!.toNat < d1[p]!.toNat) := ⟨by omega, by rw [HQ.out]; exact hl⟩
                      obtain ⟨x1, hx1⟩ : ∃ x1, x1 = d1[q]!.toNat := ⟨_, rfl⟩
                      obtain ⟨x2, hx2⟩ : ∃ x2, x2 = d1[p]!.toNat := ⟨_, rfl⟩
                      rw [← hx1] at c1 HLS
                      rw [← hx2] at c2 HLS
                      clear hq hx1 hx2 hl
                      go_quiet (first | (go_at_call 120; refine Calls.quiet_of_same (HLS.out _)))
                      go_wp2_with fail
                      go_meet
                      case rel => exact ⟨true, rfl, ⟨fun _ => HT.out⟩, ⟨HV3.out.drewN _⟩⟩
                case rest =>
                  rename World => we
                  obtain ⟨t, rfl, HT, HV4⟩ := hcut
                  clear HV3
                  cases t
                  · have HC := Aside0.mk (fun (W : World) (SW : SB w0 blk d1 W) => partition_any HR.out hN cap a' b' p d1 HD1.out (by omega) p1 p2 W SW)
                    unfold Part at HC
                    go_upto_if 113 with (go_at_call 122; refine (HC.out _ HV4.out).mono ?_; rintro e w5 ⟨m, ap, d2, rfl, m1, m2, HP2, HLO, HHI, HV5⟩)
                    by_cases h4 : m - a' < b' - m
                    · have h4z : (m : Int) - (a' : Int) < (b' : Int) - (m : Int) := by omega
                      have HL := Aside0.mk (go_left HP2.out HBD1.out HB1.out HLO.out HHI.out m1 m2)
                      have HC2 := Aside0.mk (fun (W : World) (SW : SB w0 blk d2 W) => HIH.out a' m l2 d2 W (by omega) (by rw [HP2.out.1]; exact HD1.out) m1 (by omega) (by omega) hl2 HL.out.1 SW)
                      unfold Sorts at HC2
                      go_wp2_with (go_at_call 99; refine (HC2.out _ HV5.out).mono ?_; rintro e w6 ⟨rfl, d3, HP3, HS3, HV6⟩)
                      go_roundg (b' - (m + 1))
                      case measure => omega
                      case rel =>
                        obtain ⟨f1, f2⟩ := HL.out.2 d3 HP3.out HS3.out
                        exact ⟨m + 1, b', l2, _, ap, d3, by first | rfl | go_num, rfl, rfl, rfl, rfl, by omega, by omega, Nat.le_refl _, by omega, hl2, by omega, ⟨by rw [HP3.out.1, HP2.out.1]; exact HD1.out⟩, ⟨f1⟩, ⟨fun R h1 h2 => HG1.out R (f2 R h1 h2).1 (f2 R h1 h2).2⟩, HV6⟩
                    · have h4z : ¬ ((m : Int) - (a' : Int) < (b' : Int) - (m : Int)) := by omega
                      have HL := Aside0.mk (go_right HP2.out HBD1.out HB1.out HLO.out HHI.out m1 m2)
                      have HC2 := Aside0.mk (fun (W : World) (SW : SB w0 blk d2 W) => HIH.out (m + 1) b' l2 d2 W (by omega) (by rw [HP2.out.1]; exact HD1.out) (by omega) (by omega) (by omega) hl2 HL.out.1 SW)
                      unfold Sorts at HC2
                      go_wp2_with (go_at_call 99; refine (HC2.out _ HV5.out).mono ?_; rintro e w6 ⟨rfl, d3, HP3, HS3, HV6⟩)
                      go_roundg (m - a')
                      case measure => omega
                      case rel =>
                        obtain ⟨f1, f2⟩ := HL.out.2 d3 HP3.out HS3.out
                        exact ⟨a', m, l2, _, ap, d3, rfl, rfl, rfl, rfl, rfl, by omega, by omega, Nat.le_refl _, by omega, hl2, by omega, ⟨by rw [HP3.out.1, HP2.out.1]; exact HD1.out⟩, ⟨f1⟩, ⟨fun R h1 h2 => HG1.out R (f2 R h1 h2).1 (f2 R h1 h2).2⟩, HV6⟩
                  · have hT := HT.out rfl
                    have HC := Aside0.mk (fun (W : World) (SW : SB w0 blk d1 W) => partitionEqual_any HR.out hN cap a' b' p d1 HD1.out (by omega) p1 p2 W SW)
                    unfold PartE at HC
                    have HT2 := Aside0.mk hT
                    clear hT HT
                    go_wp2_with (go_at_call 121; refine (HC.out _ HV4.out).mono ?_; rintro e w5 ⟨m, d2, rfl, m1, m2, HP2, HLE, HGT, HV5⟩)
                    go_roundg (b' - m)
                    case measure => omega
                    case rel =>
                      obtain ⟨f1, f2⟩ := go_eq HP2.out HBD1.out HB1.out HT2.out.1 HT2.out.2 HLE.out HGT.out m1 m2
                      exact ⟨m, b', l2, wb, wp, d2, rfl, rfl, rfl, rfl, rfl, by omega, by omega, Nat.le_refl _, by omega, hl2, by omega, ⟨by rw [HP2.out.1]; exact HD1.out⟩, ⟨f1⟩, ⟨fun R h1 h2 => HG1.out R (f2 R h1 h2).1 (f2 R h1 h2).2⟩, HV5⟩
end Go.Proofs.YtoieadofldkccaaDoor.Bytes
namespace Go.Proofs.YtoieadofldkccaaDoor.Bytes
open Go.RowKit Go.Sort Go.Proofs Go.Proofs.YtoieadofldkccaaDoorW.PrintWords Go.Proofs.YtoieadofldkccaaDoorW.PrintLast Go.Proofs.YtoieadofldkccaaDoorW.PrintMore
set_option linter.unusedVariables false
set_option linter.unusedSimpArgs false

theorem bitLen_small : ∀ n : Fin 50, Lib.bitLen n.val ≤ 64 := by decide +kernel

set_option maxHeartbeats 1000000 in
theorem sort_any {w0 : World} {blk N : Nat} (R : Base w0 blk N) (hN : N < 50) (cap : Nat) (d : Array UInt8) (w : World) (hd : d.size = N) (S : SB w0 blk d w) :
    Calls Tryd.prog 76 #[.slice (some ⟨blk, 0, none⟩) N cap] w (Sorts w0 blk 0 N d) := by
  have HC := Aside0.mk (pdq_any R (by omega) cap 50 0 N (Lib.bitLen N) d w (by omega) hd (by omega) (by omega) (by omega) (bitLen_small ⟨N, hN⟩) (.inl rfl) S)
  have HL := Aside0.mk (Tryd.bits_Len (N : Int) w (by omega) (by omega))
  rw [Int.toNat_natCast] at HL
  generalize Lib.bitLen N = l at HL HC
  clear S R hd
  go_enter Tryd.func76, Tryd.ntmps76
  go_wp2_with (first | (go_at_call 99; refine HC.out.mono ?_; rintro e w2 ⟨rfl, h2⟩) | (go_at_call 100; refine HL.out.mono ?_; rintro e w' ⟨rfl, rfl⟩))
  go_end0
  exact ⟨rfl, h2⟩

open Go.Lib

theorem store_world {w wr : World} {n blk : Nat} {dk : Array UInt8} {i : Nat} (hi : i < dk.size) (hwr : wr = putRow encB (Sort.ahead w n) blk 0 dk) (x : UInt8) :
    (wr.setCell ⟨blk, i, none⟩ (encB x)).drew = putRow encB (Sort.ahead w (n + 1)) blk 0 (dk.setIfInBounds i x) := by
  subst hwr
  have := putRow_set encB (Sort.ahead w n) blk 0 dk i x hi
  rw [Nat.zero_add] at this
  rw [this, ← ahead_drew]
  rfl

/-- what Compact leaves -/
def Comp (w : World) (blk cap : Nat) (d : Array UInt8) (e : Ending) (w' : World) : Prop :=
  e = .returned (.slice (some ⟨blk, 0, none⟩) (compactUpTo d d.size).length cap) ∧ ∃ q, w' = putRow encB (Sort.ahead w q) blk 0 (compactUpTo d d.size ++ List.replicate (d.size - (compactUpTo d d.size).length) 0).toArray

set_option maxHeartbeats 4000000 in
set_option maxRecDepth 1000000 in
theorem compact_any (blk cap N : Nat) (d : Array UInt8) (hd : d.size = N) (w : World) (hH : Holds encB w blk 0 d) (hN : N < 50) (hcap : N ≤ cap) :
    Calls Tryd.prog 77 #[.slice (some ⟨blk, 0, none⟩) N cap] w (Comp w blk cap d) := by
  have same : ∀ q, (∀ j, j < d.size → keeps d j = true) → (compactUpTo d d.size).length = d.size ∧ w.drewN q = putRow encB (Sort.ahead w q) blk 0 (compactUpTo d d.size ++ List.replicate (d.size - (compactUpTo d d.size).length) 0).toArray := by
    intro q hall
    have e : compactUpTo d d.size = d.toList := by rw [compactUpTo_all d _ hall, range_map_get]
    rw [e]
    refine ⟨by simp, ?_⟩
    simp only [Array.length_toList, Nat.sub_self, List.replicate_zero, List.append_nil, Array.toArray_toList]
    exact (putRow_self encB (Sort.ahead w q) blk 0 d (holds_ahead encB w q blk 0 d hH)).symm
  have HS : Aside0 (∀ q, (∀ j, j < N → keeps d j = true) → Comp w blk cap d (.returned (.slice (some ⟨blk, 0, none⟩) N cap)) (w.drewN q)) := ⟨fun q hall => by
    obtain ⟨e1, e2⟩ := same q (by rw [hd]; exact hall)
    exact ⟨by rw [e1, hd], q, e2⟩⟩
  have HD := Aside0.mk hd
  have HH := Aside0.mk hH
  clear same hd hH
  by_cases h2 : N < 2
  · go_enter Tryd.func77, Tryd.ntmps77
    go_wp2
    go_ret
    exact HS.out 0 (fun j hj => keeps_lt_one d j (by omega))
  · have HW1 : Aside0 (∀ i, i < N → ∀ q, (w.drewN q).cell? ⟨blk, i, none⟩ = some (.int .u8 (d[i]!.toNat : Int))) := ⟨fun i hi q => by have := (HH.out i (by rw [HD.out]; exact hi)).1; rw [Nat.zero_add] at this; exact this⟩
    go_enter Tryd.func77, Tryd.ntmps77
    go_wp2
    go_loopg [3] N (fun g s3 wr => ∃ k q : Nat, 1 ≤ k ∧ k ≤ N ∧ N - k ≤ g ∧ s3 = .int .i64 k ∧ Aside0 (wr = w.drewN q) ∧ Aside0 (∀ j, j < k → keeps d j = true))
    case atStart => exact ⟨1, 0, Nat.le_refl _, by omega, by omega, rfl, ⟨rfl⟩, ⟨keeps_lt_one d⟩⟩
    case round =>
      rename World => V1
      obtain ⟨k, q, hk1, hk, hg, rfl, HV, HA⟩ := hrel
      by_cases hlt : k < N
      · obtain ⟨k0, hk0⟩ : ∃ k0, k = k0 + 1 := ⟨k - 1, by omega⟩
        have zk : (k : Int) - 1 = (k0 : Int) := by omega
        have hk0N : k0 < N := by omega
        have c1 := HW1.out k hlt q
        have c0 := HW1.out k0 hk0N q
        rw [← HV.out] at c1 c0
        have e1 : (((d[k]!.toNat : Int) == (d[k0]!.toNat : Int)) = true) ↔ d[k]! = d[k - 1]! := by
          rw [beq_iff_eq, Int.ofNat_inj, UInt8.toNat_inj, show k - 1 = k0 by omega]
        by_cases hdup : d[k]! = d[k - 1]!
        · have HK : Aside0 (keeps d k = false) := ⟨keeps_neg (by omega) hdup⟩
          have e2 := e1.2 hdup
          rw [beq_iff_eq] at e2
          rw [← e2] at c0
          generalize d[k]!.toNat = x at c1 c0
          clear e1 e2 hdup hk0
          go_wp2
          go_region
          have HV2 : Aside0 (V1.drew = w.drewN (q + 1)) := ⟨by rw [HV.out]; rfl⟩
          generalize V1.drew = V2 at HV2 ⊢
          clear c0 c1
          go_wp2
          go_loopg [3, 5] N (fun g s3 s5 wr => ∃ (kk m q2 : Nat) (dk : Array UInt8), s3 = .int .i64 kk ∧ s5 = .int .i64 ((m + 1 : Nat) : Int) ∧ k + (m + 1) ≤ N ∧ N - (k + (m + 1)) ≤ g ∧ kk < N ∧ Aside0 (wr = putRow encB (Sort.ahead w q2) blk 0 dk) ∧ Aside0 (CompInv d (k + (m + 1)) kk dk))
          case atStart => exact ⟨k, 0, q + 1, d, rfl, rfl, by omega, by omega, by omega, ⟨HV2.out.trans (putRow_self encB (Sort.ahead w (q + 1)) blk 0 d (holds_ahead encB w (q + 1) blk 0 d HH.out)).symm⟩, ⟨CompInv.start HA.out HK.out⟩⟩
          case round =>
            rename World => V3
            clear HV HV2
            obtain ⟨kk, m, q2, dk, rfl, rfl, r1, r2, r3, HV, HI⟩ := hrel
            have HHk : Aside0 (Holds encB V3 blk 0 dk) := ⟨by rw [HV.out]; exact holds_putRow encB _ blk 0 d dk (holds_ahead encB w q2 blk 0 d HH.out) HI.out.size⟩
            have HDK : Aside0 (dk.size = N) := ⟨by rw [HI.out.size]; exact HD.out⟩
            by_cases hlt2 : k + (m + 1) < N
            · have hmN : k + m < N := by omega
              have cm := (HHk.out (k + (m + 1)) (by rw [HDK.out]; exact hlt2)).1
              have cp := (HHk.out (k + m) (by rw [HDK.out]; exact hmN)).1
              obtain ⟨ck, fk⟩ := HHk.out kk (by rw [HDK.out]; exact r3)
              have hkk := HI.out.lt
              rw [HI.out.high (k + (m + 1)) (by omega), Nat.zero_add] at cm
              rw [HI.out.high (k + m) (by omega), Nat.zero_add] at cp
              rw [Nat.zero_add] at ck fk
              simp only [encB] at cm cp ck
              have e1 : ((d[k + (m + 1)]!.toNat : Int) = (d[k + m]!.toNat : Int)) ↔ d[k + (m + 1)]! = d[k + (m + 1) - 1]! := by
                rw [Int.ofNat_inj, UInt8.toNat_inj, show k + (m + 1) - 1 = k + m by omega]
              have a1 : k + (m + 1) = k + m + 1 := by omega
              have l1 : k + m + 1 < N := by omega
              have g1 : m + 1 < N - k := by omega
              have g0 : m < N - k := by omega
              by_cases huv : d[k + (m + 1)]! = d[k + (m + 1) - 1]!
              · have HI2 : Aside0 (CompInv d (k + (m + 1 + 1)) kk dk) := ⟨HI.out.skip (keeps_neg (by omega) huv)⟩
                rw [e1.2 huv] at cm
                generalize d[k + m]!.toNat = y at cm cp
                rw [a1] at cm
                clear e1 huv
                go_wp2
                go_region
                go_wp2
                go_roundg (N - (k + (m + 1 + 1)))
                case measure => omega
                case rel => exact ⟨kk, m + 1, q2 + 1, dk, rfl, by first | rfl | go_num, by omega, by omega, r3, ⟨by rw [HV.out]; rfl⟩, HI2⟩
              · have HI2 : Aside0 (CompInv d (k + (m + 1 + 1)) (kk + 1) (dk.setIfInBounds kk d[k + (m + 1)]!)) := ⟨HI.out.keep (by rw [HD.out]; exact hlt2) (keeps_pos huv)⟩
                have HS2 := Aside0.mk (store_world (by rw [HDK.out]; exact r3) HV.out d[k + (m + 1)]!)
                have e2 : ¬ d[k + (m + 1)]!.toNat = d[k + m]!.toNat := fun h => huv (e1.1 (by rw [h]))
                obtain ⟨x, hx⟩ : ∃ x, x = d[k + (m + 1)]! := ⟨_, rfl⟩
                rw [← hx] at cm e2 HI2 HS2
                have HS3 : Aside0 ((V3.setCell ⟨blk, kk, none⟩ (.int .u8 (x.toNat : Int))).drew = putRow encB (Sort.ahead w (q2 + 1)) blk 0 (dk.setIfInBounds kk x)) := HS2
                generalize x.toNat = xn at cm e2 HS3
                generalize d[k + m]!.toNat = y at cp e2
                generalize dk[kk]! = old at ck
                have e2z : ((xn : Int) == (y : Int)) = false := by rw [beq_eq_false_iff_ne]; omega
                rw [a1] at cm
                clear e1 huv hx HS2
                go_wp2
                go_region
                go_wp2
                go_roundg (N - (k + (m + 1 + 1)))
                case measure => omega
                case rel => exact ⟨kk + 1, m + 1, q2 + 1, _, by first | rfl | go_num, by first | rfl | go_num, by omega, by omega, by omega, HS3, HI2⟩
            · have hend : k + (m + 1) = N := by omega
              have hkkN := r3
              have hcl : ∀ ty, (Builtin.clear_ #[71] ty #[.slice (some ⟨blk, kk, none⟩) (N - kk) (cap - kk)]).run Tryd.prog V3 = .ok (.tuple #[]) (V3.setCells blk kk (List.replicate (N - kk) (.int .u8 0))) :=
                fun ty => Lib.run_clear_slice V3 71 5 ty (.int .u8 0) rfl (fun _ => rfl) rfl rfl blk kk _ _ (by omega) (fun j hj => by have := (HHk.out (kk + j) (by rw [HDK.out]; omega)).1; rw [Nat.zero_add] at this; rw [this]; rfl) (fun j hj => by have := (HHk.out (kk + j) (by rw [HDK.out]; omega)).2; rw [Nat.zero_add] at this; exact this)
              have hnl : ¬ ((m : Int) + 1 < ((N - k : Nat) : Int)) := by omega
              have zkk : (N - kk : Nat) = N - kk := rfl
              go_wp2
              go_ret
              have HF := HI.out
              rw [hend, ← HD.out] at HF
              have hl := HF.len
              refine ⟨by rw [hl]; rfl, q2, ?_⟩
              have h3 := putRow_setCells encB (Sort.ahead w q2) blk 0 (List.replicate (N - kk) (0 : UInt8)) dk kk (by rw [List.length_replicate, HDK.out]; omega)
              rw [List.map_replicate, Nat.zero_add, ← HV.out] at h3
              rw [hl, ← HF.done 0, HD.out, ← h3]
              rfl
        · have HK : Aside0 (keeps d k = true) := ⟨keeps_pos hdup⟩
          have e2 : ¬ d[k]!.toNat = d[k0]!.toNat := fun h => hdup (e1.1 (by rw [beq_iff_eq, h]))
          generalize d[k]!.toNat = x at c1 e2
          generalize d[k0]!.toNat = y at c0 e2
          clear e1 hdup hk0
          have e2z : ((x : Int) == (y : Int)) = false := by rw [beq_eq_false_iff_ne]; omega
          go_wp2
          go_region
          go_wp2
          go_roundg (N - (k + 1))
          case measure => omega
          case rel =>
            refine ⟨k + 1, q + 1, by omega, by omega, Nat.le_refl _, by first | rfl | go_num, ⟨by rw [HV.out]; rfl⟩, ⟨fun j hj => ?_⟩⟩
            by_cases e : j = k
            · subst e; exact HK.out
            · exact HA.out j (by omega)
      · obtain rfl : k = N := by omega
        go_wp2
        go_ret
        rw [HV.out]
        exact HS.out q HA.out
end Go.Proofs.YtoieadofldkccaaDoor.Bytes
