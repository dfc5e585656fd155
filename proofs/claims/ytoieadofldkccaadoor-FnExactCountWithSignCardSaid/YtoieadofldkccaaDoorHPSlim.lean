/-
  Plates: counter.from counts all plates (HPTotals over a shorter road, for claims that need no ranks).
-/
import Derived.Test.YtoieadofldkccaaDoorHPBarred
import Derived.Test.YtoieadofldkccaaDoorHPBegin
namespace Go.Proofs.YtoieadofldkccaaDoor.Plates
open Go.RowKit Go.Proofs.YtoieadofldkccaaDoorW.PrintWords Go.Proofs.YtoieadofldkccaaDoorW.PrintLast Go.Proofs.YtoieadofldkccaaDoorW.PrintMore Go.Proofs.YtoieadofldkccaaDoor.PFnExactCountBeginning
open PFake (ML ml_below)
set_option linter.unusedVariables false
set_option linter.unusedSimpArgs false

theorem clean_nil {p b : T} {ws : List T} (G : Good p b ws) : Clean ws [] := by
  intro x hx h
  have h1 := (G.ww x hx).1.1
  have h2 := h.length_le
  simp at h2
  rw [h2] at h1; simp at h1
theorem fits_nil (p b : T) : Fits p b [] := ⟨Nat.zero_le _, fun i h => by simp at h⟩
theorem good_bare {p b : T} {ws : List T} (G : Good p b ws) : Good p b [] := { G with w3 := Nat.zero_le _, ww := fun x hx => by simp at hx }
theorem texts_nil (w : World) : Texts w none 0 [] := ⟨Kd.C_nil _ _, by simp⟩

theorem fromN_le {p : T} (b : T) (ws : List T) (t : T) (h : p.length ≤ 8) : fromN p b ws t ≤ 208827064576 := by
  unfold fromN
  split
  · exact cnt_bound b ws _ _ (by rw [List.length_drop]; omega)
  · exact Nat.zero_le _

theorem fromAll_any {p b : T} {ws : List T} (G : Good p b ws) {A : Option Addr} {c : Nat} (w0 : World) (hT0 : Texts w0 A c ws) (hM0 : ML w0) (bm : Nat) (hbm : w0.heap.size ≤ bm) (n : Nat) (hn : n + 282429536481 ≤ 1000000000000000000) (w : World) (HB : Below w0.heap.size w0 w) (HM : Memo p b ws w bm n) :
    Calls Tryd.prog 59 #[counterV p b A ws.length c (.map (some bm)), .int .i64 0, .string ⟨#[]⟩] w (BegPost p b ws bm n (fromN p b ws []) w) := by
  have p8 := G.p8
  have hP : 27 ^ p.length ≤ 282429536481 := Nat.le_trans (Nat.pow_le_pow_right (by omega) (show p.length ≤ 8 by omega)) (by decide)
  have h := from_any G w0 hT0 hM0 bm hbm p.length 0 (by omega) [] (by simp) (clean_nil G) n w (by omega) HB HM
  have hv : cnt b ws (p.drop 0) [] = fromN p b ws [] := (fromN_yes (fits_nil p b) (clean_nil G)).symm
  rw [hv] at h
  refine Calls.mono h ?_
  rintro e w' ⟨h1, h2, h3⟩
  exact ⟨h1, ⟨h2.out.mono (by omega)⟩, h3⟩
theorem fromAll_spec {p b : T} {ws : List T} (G : Good p b ws) {A : Option Addr} {c : Nat} (w : World) (hT : Texts w A c ws) :
    Calls Tryd.prog 57 #[.agg #[.string (str p), .string (str b), .slice A ws.length c], .string ⟨#[]⟩] w fun e w' => e = .returned (.int .i64 (fromN p b ws [] : Nat)) ∧ Below w.heap.size w w' :=
  plFrom_any G [] (by simp) w hT
end Go.Proofs.YtoieadofldkccaaDoor.Plates
