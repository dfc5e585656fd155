/-
  Plates: a scheme among the arguments, opened; the library's own variable holds some number.
-/
import Derived.Test.YtoieadofldkccaaDoorHPHarness
import Derived.Lib.SmallJoins
import Derived.SliceStrings
import Derived.Shelf.Vars
import Derived.ProofKit
import Derived.OpenShut
import Derived.ChangeMaps5
namespace Go.Proofs.YtoieadofldkccaaDoor.Plates
open Go.RowKit Go.Proofs.YtoieadofldkccaaDoorW.PrintWords Go.Proofs.YtoieadofldkccaaDoorW.PrintLast Go.Proofs.YtoieadofldkccaaDoorW.PrintMore Go.Proofs.YtoieadofldkccaaDoor.PFnExactCountBeginning
open Go.ChangeShapes Go.WideShapes Go.ChangeAt Go.Lib Go.Joins
open PFake (ML ml_below)
set_option linter.unusedVariables false
set_option linter.unusedSimpArgs false

theorem ml_of {W : World} (h : W.ShapedOpen Tryd.prog) : ML W :=
  Go.Proofs.cell_of_shapedOpen_int (g := 0) (k := .i64) h (of_decide_eq_true (by kernel_rfl)) (zero := #[.int .i64 0]) (t := 3) (by kernel_rfl) rfl (by kernel_rfl) (by kernel_rfl) Tryd.underlying3

theorem maps_str (zs : List ByteArray) : (zs.map (·.data.toList)).map str = zs := by
  rw [List.map_map]
  conv => rhs; rw [← List.map_id zs]
  apply List.map_congr_left
  intro z _
  exact (str_of z).symm

set_option maxRecDepth 100000 in
theorem open_scheme {H : Type} {enc : TypeId × Value → H} {W : World} {b0 base : Nat} {spare : Nat → Bool} {held : Bool} {v : Value} {d : DataW H} {ps : List MemPlace}
    (hv : Value.okWide Tryd.prog W .any b0 24 v) (h : DataW.Trod enc Tryd.prog W base spare held 24 v d ps) :
    ∃ (p b : T) (ws : List T) (A : Option Addr) (c : Nat), v = .agg #[.string (str p), .string (str b), .slice A ws.length c] ∧
      p.length ≤ 9223372036854775807 ∧ b.length ≤ 9223372036854775807 ∧ ws.length ≤ 9223372036854775807 ∧ (∀ x ∈ ws, x.length ≤ 9223372036854775807) ∧ Texts W A c ws := by
  obtain ⟨u0, u1, u2, y0, y1, y2, nf, rfl, hd0, hp0, t0, t1, t2⟩ := open_agg3 Tryd.underlying24 (by kernel_rfl) (by kernel_rfl) hv h
  obtain ⟨s0, e0, _, l0⟩ := DataW.trod_string Tryd.underlying9 t0
  obtain ⟨s1, e1, _, l1⟩ := DataW.trod_string Tryd.underlying9 t1
  obtain rfl : u0 = .string s0 := by simpa using e0
  obtain rfl : u1 = .string s1 := by simpa using e1
  have l0' : s0.data.toList.length ≤ 9223372036854775807 := by rw [Array.length_toList]; exact l0
  have l1' : s1.data.toList.length ≤ 9223372036854775807 := by rw [Array.length_toList]; exact l1
  have es0 := str_of s0
  have es1 := str_of s1
  rcases open_strings Tryd.underlying22 Tryd.underlying9 (by kernel_rfl) t2 with ⟨hcs, hx⟩ | ⟨a, len, cap, zs, hcs, _, hl, hm, hz, hx, hcell, hsz⟩
  · obtain rfl : u2 = .slice none 0 0 := by simpa using hcs
    refine ⟨s0.data.toList, s1.data.toList, [], none, 0, by rw [← es0, ← es1]; rfl, l0', l1', by simp, by simp, ?_, by simp⟩
    exact Kd.C_nil _ _
  · obtain rfl : u2 = .slice (some a) len cap := by simpa using hcs
    have hzl : len ≤ zs.length := by rw [hz]; split <;> omega
    have htl : (zs.take len).length = len := by rw [List.length_take]; omega
    refine ⟨s0.data.toList, s1.data.toList, (zs.take len).map (·.data.toList), some a, cap, by rw [← es0, ← es1, List.length_map, htl], l0', l1', by rw [List.length_map, htl]; unfold maxLen at hm; omega, ?_, ?_, ?_⟩
    · intro x hx
      obtain ⟨z, hz2, rfl⟩ := List.mem_map.1 hx
      have := hsz z (List.mem_of_mem_take hz2)
      rw [Array.length_toList]; unfold maxLen at this; exact this
    · rw [maps_str]
      refine Kd.C_of_reads (d := ByteArray.empty) ⟨rfl, by rw [htl]; unfold maxLen at hm; omega, fun _ => ⟨a, rfl, fun j hj => ?_⟩⟩
      rw [htl] at hj
      rw [hcell j (by omega)]
      congr 2
      rw [List.getD_eq_getElem?_getD, List.getD_eq_getElem?_getD, List.getElem?_take_of_lt hj]
    · rw [maps_str, htl]; exact hl
end Go.Proofs.YtoieadofldkccaaDoor.Plates
