/-
  Plates: both sides of PlateOfRank.
-/
import Derived.Test.YtoieadofldkccaaDoorHPRanked
import Derived.Test.YtoieadofldkccaaDoorHPLawBegin
namespace Go.Proofs.YtoieadofldkccaaDoor.Plates
open Go.RowKit Go.Proofs.YtoieadofldkccaaDoorW.PrintWords Go.Proofs.YtoieadofldkccaaDoorW.PrintLast Go.Proofs.YtoieadofldkccaaDoorW.PrintMore Go.Proofs.YtoieadofldkccaaDoor.PFnExactCountBeginning
open PFake (ML ml_below)
set_option linter.unusedVariables false
set_option linter.unusedSimpArgs false

noncomputable def okQ (p b : T) (ws : List T) (r : Int) : Bool := goodB p b ws && okO p b ws r
noncomputable def valQ (p b : T) (ws : List T) (r : Int) : T := if okQ p b ws r = true then rankedN p b ws r.toNat else []
theorem okQ_no {p b : T} {ws : List T} (r : Int) (h : goodB p b ws = false) : okQ p b ws r = false ∧ valQ p b ws r = [] := by
  have : okQ p b ws r = false := by unfold okQ; rw [h]; rfl
  exact ⟨this, by unfold valQ; rw [this]; rfl⟩
theorem okQ_yes {p b : T} {ws : List T} (r : Int) (h : goodB p b ws = true) : okQ p b ws r = okO p b ws r ∧ valQ p b ws r = valO p b ws r := by
  have : okQ p b ws r = okO p b ws r := by unfold okQ; rw [h]; rfl
  exact ⟨this, by unfold valQ valO; rw [this]⟩
theorem okO_no {p b : T} {ws : List T} {r : Int} (h : ¬ (0 ≤ r ∧ r ≤ ((fromN p b ws [] : Nat) : Int) - 1)) : okO p b ws r = false ∧ valO p b ws r = [] := by
  have : okO p b ws r = false := by unfold okO; exact decide_eq_false h
  exact ⟨this, by unfold valO; rw [this]; rfl⟩
theorem okO_yes {p b : T} {ws : List T} {r : Int} (h : 0 ≤ r ∧ r ≤ ((fromN p b ws [] : Nat) : Int) - 1) : okO p b ws r = true ∧ valO p b ws r = rankedN p b ws r.toNat := by
  have : okO p b ws r = true := by unfold okO; exact decide_eq_true h
  exact ⟨this, by unfold valO; rw [if_pos this]⟩
theorem small_texts {p b : T} {ws : List T} (hs : Small p b ws) : p.length ≤ 4000000 ∧ b.length ≤ 4000000 ∧ ws.length ≤ 4000000 ∧ ∀ x ∈ ws, x.length ≤ 4000000 := by
  obtain ⟨s1, s2, s3, s4⟩ := hs
  exact ⟨by omega, by omega, by omega, fun x hx => by have := s4 x hx; omega⟩

set_option maxRecDepth 100000 in
set_option maxHeartbeats 4000000 in
theorem specOf_any {p b : T} {ws : List T} {A : Option Addr} {c : Nat} (hs : Small p b ws) (a : Int) (ha : (Lit.int .i64 a).wf = true) (w : World) (hT : Texts w A c ws) :
    Calls Tryd.prog 29 #[.agg #[.string (str p), .string (str b), .slice A ws.length c], .int .i64 a] w fun e w' => e = .returned (.tuple #[.string (str (valQ p b ws a)), .bool (okQ p b ws a)]) ∧ Below w.heap.size w w' := by
  obtain ⟨s1, s2, s3, s4⟩ := small_texts hs
  have HT := Aside0.mk hT
  have HPG := Aside0.mk (fun W (h : Texts W A c ws) => plGood_any (p := p) (b := b) s2 s4 W h)
  have hB1 : Aside0 (Below w.heap.size w (w.alloc (.cells #[.string (str p), .string (str b), .slice A ws.length c] 28))) := ⟨(Below.refl _ w).alloc (Nat.le_refl _) _⟩
  have HX1 : Aside0 ((w.alloc (.cells #[.string (str p), .string (str b), .slice A ws.length c] 28)).heap[w.heap.size]? = some (boxS p b A ws.length c)) := ⟨al_new _ _ _ rfl⟩
  clear s4 hT hs
  cases hg : goodB p b ws with
  | false =>
    obtain ⟨v1, v2⟩ := okQ_no a hg
    rw [hg] at HPG
    rw [v1, v2]
    clear hg v1 v2
    go_enter Tryd.func29, Tryd.ntmps29
    go_wp2_with (go_at_call 47; refine (HPG.out _ (texts_below HT.out hB1.out)).mono ?_; rintro e w1 ⟨rfl, hb1⟩; have HB1 := Aside0.mk (hB1.out.trans (hb1.mono hB1.out.size)); clear hb1)
    refine bodyPost_ret (results_tmp2 rfl _ _ _) rfl ?_
    exact ⟨rfl, HB1.out⟩
  | true =>
    have G := good_of hg
    have p8 := G.p8
    obtain ⟨v1, v2⟩ := okQ_yes a hg
    rw [hg] at HPG
    rw [v1, v2]
    clear hg v1 v2
    have hX := fromN_le b ws [] p8
    by_cases hneg : a < 0
    · obtain ⟨v1, v2⟩ := okO_no (p := p) (b := b) (ws := ws) (r := a) (by omega)
      rw [v1, v2]
      have hn2 : (a < 0) = True := by simp; omega
      clear v1 v2 hneg
      go_enter Tryd.func29, Tryd.ntmps29
      go_wp2_with (go_at_call 47; refine (HPG.out _ (texts_below HT.out hB1.out)).mono ?_; rintro e w1 ⟨rfl, hb1⟩; have HB1 := Aside0.mk (hB1.out.trans (hb1.mono hB1.out.size)); clear hb1)
      refine bodyPost_ret (results_tmp2 rfl _ _ _) rfl ?_
      exact ⟨rfl, HB1.out⟩
    have hn2 : (a < 0) = False := by simp; omega
    have HFA := Aside0.mk (fun W (h : Texts W A c ws) => fromAll_spec G W h)
    by_cases hin : (fromN p b ws [] : Nat) ≤ a
    · obtain ⟨v1, v2⟩ := okO_no (p := p) (b := b) (ws := ws) (r := a) (by omega)
      rw [v1, v2]
      clear v1 v2
      generalize fromN p b ws [] = X at HFA hin hX
      have hn3 : ((X : Int) ≤ a) = True := by simp; omega
      clear hin
      go_enter Tryd.func29, Tryd.ntmps29
      go_wp2_with (first | (go_at_call 47; refine (HPG.out _ (texts_below HT.out hB1.out)).mono ?_; rintro e w1 ⟨rfl, hb1⟩; have HB1 := Aside0.mk (hB1.out.trans (hb1.mono hB1.out.size)); obtain ⟨k0, k1, k2⟩ := box3_cells (below_box hb1 HX1.out); clear hb1) | (go_at_call 57; refine (HFA.out _ (texts_below HT.out HB1.out)).mono ?_; rintro e w2 ⟨rfl, hb2⟩; have HB2 := Aside0.mk (HB1.out.trans (hb2.mono HB1.out.size)); clear hb2 k0 k1 k2))
      refine bodyPost_ret (results_tmp2 rfl _ _ _) rfl ?_
      exact ⟨rfl, HB2.out⟩
    · obtain ⟨v1, v2⟩ := okO_yes (p := p) (b := b) (ws := ws) (r := a) (by omega)
      rw [v1, v2]
      clear v1 v2
      obtain ⟨R, rfl⟩ : ∃ R : Nat, a = R := ⟨a.toNat, by omega⟩
      rw [show ((R : Int)).toNat = R from rfl]
      have HRK := Aside0.mk (fun W (h : Texts W A c ws) => plRanked_any G R (by omega) W h)
      generalize fromN p b ws [] = X at HFA hin hX
      have hn3 : ((X : Int) ≤ (R : Int)) = False := by simp; omega
      have hn4 : (X ≤ R) = False := by simp; omega
      clear hin hneg G
      go_enter Tryd.func29, Tryd.ntmps29
      go_wp2_with (first | (go_at_call 47; refine (HPG.out _ (texts_below HT.out hB1.out)).mono ?_; rintro e w1 ⟨rfl, hb1⟩; have HB1 := Aside0.mk (hB1.out.trans (hb1.mono hB1.out.size)); have HXA := Aside0.mk (below_box hb1 HX1.out); obtain ⟨k0, k1, k2⟩ := box3_cells HXA.out; clear hb1) | (go_at_call 57; refine (HFA.out _ (texts_below HT.out HB1.out)).mono ?_; rintro e w2 ⟨rfl, hb2⟩; have HB2 := Aside0.mk (HB1.out.trans (hb2.mono HB1.out.size)); clear k0 k1 k2; obtain ⟨k0, k1, k2⟩ := box3_cells (below_box hb2 HXA.out); clear hb2) | (go_at_call 61; refine (HRK.out _ (texts_below HT.out HB2.out)).mono ?_; rintro e w4 ⟨rfl, hb4⟩; have HB4 := Aside0.mk (HB2.out.trans (hb4.mono HB2.out.size)); clear hb4))
      refine bodyPost_ret (results_tmp2 rfl _ _ _) rfl ?_
      exact ⟨rfl, HB4.out⟩

set_option maxRecDepth 100000 in
set_option maxHeartbeats 4000000 in
theorem implOf_any {p b : T} {ws : List T} {A : Option Addr} {c : Nat} (hs : Small p b ws) (a : Int) (ha : (Lit.int .i64 a).wf = true) (w : World) (hT : Texts w A c ws) (hM : ML w) :
    Calls Tryd.prog 30 #[.agg #[.string (str p), .string (str b), .slice A ws.length c], .int .i64 a] w fun e w' => e = .returned (.tuple #[.string (str (valQ p b ws a)), .bool (okQ p b ws a)]) ∧ Below w.heap.size w w' := by
  obtain ⟨s1, s2, s3, s4⟩ := small_texts hs
  have HT := Aside0.mk hT
  have HM := Aside0.mk hM
  have HPG := Aside0.mk (fun W (h : Texts W A c ws) => isScheme_any (p := p) (b := b) s1 s2 s3 s4 W h)
  have hB1 : Aside0 (Below w.heap.size w (w.alloc (.cells #[.string (str p), .string (str b), .slice A ws.length c] 28))) := ⟨(Below.refl _ w).alloc (Nat.le_refl _) _⟩
  have HX1 : Aside0 ((w.alloc (.cells #[.string (str p), .string (str b), .slice A ws.length c] 28)).heap[w.heap.size]? = some (boxS p b A ws.length c)) := ⟨al_new _ _ _ rfl⟩
  clear s4 hT hM hs
  cases hg : goodB p b ws with
  | false =>
    obtain ⟨v1, v2⟩ := okQ_no a hg
    rw [hg] at HPG
    rw [v1, v2]
    clear hg v1 v2
    go_enter Tryd.func30, Tryd.ntmps30
    go_wp2_with (go_at_call 51; refine (HPG.out _ (texts_below HT.out hB1.out)).mono ?_; rintro e w1 ⟨rfl, hb1⟩; have HB1 := Aside0.mk (hB1.out.trans (hb1.mono hB1.out.size)); clear hb1)
    refine bodyPost_ret (results_tmp2 rfl _ _ _) rfl ?_
    exact ⟨rfl, HB1.out⟩
  | true =>
    have HOF := Aside0.mk (fun w0 hT0 hM0 bm hbm W hB hM => ofRank_any (A := A) (c := c) (good_of hg) w0 hT0 hM0 bm hbm a 0 (by omega) W hB hM)
    have HCO := Aside0.mk (fun W => counterOf_any (p := p) (b := b) (ws := ws) (A := A) (c := c) W)
    obtain ⟨v1, v2⟩ := okQ_yes a hg
    rw [hg] at HPG
    rw [v1, v2]
    clear hg v1 v2
    unfold OfPost at HOF
    generalize okO p b ws a = ok at HOF ⊢
    generalize valO p b ws a = va at HOF ⊢
    go_enter Tryd.func30, Tryd.ntmps30
    go_wp2_with (first | (go_at_call 51; refine (HPG.out _ (texts_below HT.out hB1.out)).mono ?_; rintro e w1 ⟨rfl, hb1⟩; have HB1 := Aside0.mk (hB1.out.trans (hb1.mono hB1.out.size)); obtain ⟨k0, k1, k2⟩ := box3_cells (below_box hb1 HX1.out); clear hb1) | (go_at_call 58; refine (HCO.out _).mono ?_; rintro e w3 ⟨bm, rfl, hm3, hbm3, hb3⟩; have HB3 := Aside0.mk (HB1.out.trans (hb3.out.mono HB1.out.size)); have HM3 := hm3; have HBM := Aside0.mk (Nat.le_trans HB1.out.size hbm3.out); clear hb3 hm3 hbm3) | (go_at_call 62; refine (HOF.out w HT.out HM.out bm HBM.out _ HB3.out HM3.out).mono ?_; rintro e w4 ⟨rfl, hm4, hg4⟩; have HB4 := Aside0.mk (HB3.out.trans (below_grown hg4.out HBM.out HB3.out.size)); clear hm4 hg4))
    refine bodyPost_ret (results_tmp2 rfl _ _ _) rfl ?_
    exact ⟨rfl, HB4.out⟩
end Go.Proofs.YtoieadofldkccaaDoor.Plates
