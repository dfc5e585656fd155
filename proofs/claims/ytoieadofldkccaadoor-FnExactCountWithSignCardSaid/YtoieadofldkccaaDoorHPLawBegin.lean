/-
  Plates: both sides of CountBeginning; the law.
-/
import Derived.Test.YtoieadofldkccaaDoorHPHarness
import Derived.Test.YtoieadofldkccaaDoorHPBegin
namespace Go.Proofs.YtoieadofldkccaaDoor.Plates
open Go.RowKit Go.Proofs.YtoieadofldkccaaDoorW.PrintWords Go.Proofs.YtoieadofldkccaaDoorW.PrintLast Go.Proofs.YtoieadofldkccaaDoorW.PrintMore Go.Proofs.YtoieadofldkccaaDoor.PFnExactCountBeginning
open PFake (ML ml_below)
set_option linter.unusedVariables false
set_option linter.unusedSimpArgs false

/-- texts that are not too long -/
def Small (p b : T) (ws : List T) : Prop := p.length ≤ 1048576 ∧ b.length ≤ 1048576 ∧ ws.length ≤ 1048576 ∧ ∀ x ∈ ws, x.length ≤ 1048576

/-- the answer -/
noncomputable def okB (p b : T) (ws : List T) (t : T) : Bool := goodB p b ws && decide (Some t 0 8)
noncomputable def valB (p b : T) (ws : List T) (t : T) : Nat := if okB p b ws t = true then fromN p b ws t else 0

theorem ok_ways (p b : T) (ws : List T) (t : T) :
    (goodB p b ws = false ∧ okB p b ws t = false ∧ valB p b ws t = 0) ∨
    (goodB p b ws = true ∧ decide (Some t 0 8) = false ∧ okB p b ws t = false ∧ valB p b ws t = 0) ∨
    (goodB p b ws = true ∧ decide (Some t 0 8) = true ∧ okB p b ws t = true ∧ valB p b ws t = fromN p b ws t) := by
  unfold valB okB
  cases h1 : goodB p b ws <;> cases h2 : decide (Some t 0 8) <;> simp
open Classical in
theorem good_of {p b : T} {ws : List T} (h : goodB p b ws = true) : Good p b ws := by
  unfold goodB at h; exact of_decide_eq_true h

/-- a world behind the box of a scheme -/
theorem box_cells {w W : World} {p b : T} {A : Option Addr} {n c : Nat} (h : Below (w.heap.size + 1) (w.alloc (.cells #[.string (str p), .string (str b), .slice A n c] 28)) W) :
    W.cell? ⟨w.heap.size, 0, none⟩ = some (.string (str p)) ∧ W.cell? ⟨w.heap.size, 1, none⟩ = some (.string (str b)) ∧ W.cell? ⟨w.heap.size, 2, none⟩ = some (.slice A n c) := by
  have hx := (h.block w.heap.size (Nat.lt_succ_self _)).trans (al_new w (.cells #[.string (str p), .string (str b), .slice A n c] 28) _ rfl)
  exact ⟨(Go.Joins.cell_of_block hx 0).trans rfl, (Go.Joins.cell_of_block hx 1).trans rfl, (Go.Joins.cell_of_block hx 2).trans rfl⟩

set_option maxRecDepth 100000 in
set_option maxHeartbeats 4000000 in
theorem specBegin_any {p b : T} {ws : List T} {A : Option Addr} {c : Nat} (hs : Small p b ws) (t : T) (ht : t.length ≤ 1048576) (w : World) (hT : Texts w A c ws) :
    Calls Tryd.prog 27 #[.agg #[.string (str p), .string (str b), .slice A ws.length c], .string (str t)] w fun e w' => e = .returned (.tuple #[.int .i64 (valB p b ws t : Nat), .bool (okB p b ws t)]) ∧ Below w.heap.size w w' := by
  obtain ⟨s1, s2, s3, s4⟩ := hs
  have HS4 : Aside0 (∀ x ∈ ws, x.length ≤ 4000000) := ⟨fun x hx => by have := s4 x hx; omega⟩
  have HT := Aside0.mk hT
  have HPG := Aside0.mk (fun W (h : Texts W A c ws) => plGood_any (p := p) (b := b) (by omega) HS4.out W h)
  have HPS := Aside0.mk (fun W => plSigns_any t (by omega) 0 8 W)
  have hB0 : Below (w.heap.size + 1) (w.alloc (.cells #[.string (str p), .string (str b), .slice A ws.length c] 28)) (w.alloc (.cells #[.string (str p), .string (str b), .slice A ws.length c] 28)) := Below.refl _ _
  have hB1 : Aside0 (Below w.heap.size w (w.alloc (.cells #[.string (str p), .string (str b), .slice A ws.length c] 28))) := ⟨(Below.refl _ w).alloc (Nat.le_refl _) _⟩
  have HB0 := Aside0.mk hB0
  clear s4 hT hB0
  rcases ok_ways p b ws t with ⟨g1, g3, g4⟩ | ⟨g1, g2, g3, g4⟩ | ⟨g1, g2, g3, g4⟩
  · rw [g1] at HPG
    rw [g3, g4]
    clear g1 g3 g4
    go_enter Tryd.func27, Tryd.ntmps27
    go_wp2_with (go_at_call 47; refine (HPG.out _ (texts_below HT.out hB1.out)).mono ?_; rintro e w1 ⟨rfl, hb1⟩; have HB1 := Aside0.mk (hB1.out.trans (hb1.mono hB1.out.size)); clear hb1)
    refine bodyPost_ret (results_tmp2 rfl _ _ _) rfl ?_
    exact ⟨rfl, HB1.out⟩
  · rw [g1] at HPG
    rw [g2] at HPS
    rw [g3, g4]
    clear g1 g2 g3 g4
    go_enter Tryd.func27, Tryd.ntmps27
    go_wp2_with (first | (go_at_call 47; refine (HPG.out _ (texts_below HT.out hB1.out)).mono ?_; rintro e w1 ⟨rfl, hb1⟩; have HB1 := Aside0.mk (hB1.out.trans (hb1.mono hB1.out.size)); clear hb1) | (go_at_call 48; refine (HPS.out _).mono ?_; rintro e w' ⟨rfl, ⟨nd, rfl⟩⟩))
    refine bodyPost_ret (results_tmp2 rfl _ _ _) rfl ?_
    exact ⟨rfl, pw_below_drewN HB1.out _⟩
  · have HFR := Aside0.mk (fun W (h : Texts W A c ws) => plFrom_any (good_of g1) t (by omega) W h)
    rw [g1] at HPG
    rw [g2] at HPS
    rw [g3, g4]
    clear g1 g2 g3 g4
    go_enter Tryd.func27, Tryd.ntmps27
    go_wp2_with (first | (go_at_call 47; refine (HPG.out _ (texts_below HT.out hB1.out)).mono ?_; rintro e w1 ⟨rfl, hb1⟩; have HB1 := Aside0.mk (hB1.out.trans (hb1.mono hB1.out.size)); obtain ⟨k0, k1, k2⟩ := box_cells (HB0.out.trans (hb1.mono (by rw [al_size]; omega))); clear hb1) | (go_at_call 48; refine (HPS.out _).mono ?_; rintro e w' ⟨rfl, ⟨nd, rfl⟩⟩) | (go_at_call 57; refine (HFR.out _ (texts_below HT.out (pw_below_drewN HB1.out _))).mono ?_; rintro e w3 ⟨rfl, hb3⟩; have HB3 := Aside0.mk ((pw_below_drewN HB1.out nd).trans (hb3.mono (pw_below_drewN HB1.out nd).size)); clear hb3))
    refine bodyPost_ret (results_tmp2 rfl _ _ _) rfl ?_
    exact ⟨rfl, HB3.out⟩

set_option maxRecDepth 100000 in
set_option maxHeartbeats 4000000 in
theorem implBegin_any {p b : T} {ws : List T} {A : Option Addr} {c : Nat} (hs : Small p b ws) (t : T) (ht : t.length ≤ 1048576) (w : World) (hT : Texts w A c ws) (hM : ML w) :
    Calls Tryd.prog 28 #[.agg #[.string (str p), .string (str b), .slice A ws.length c], .string (str t)] w fun e w' => e = .returned (.tuple #[.int .i64 (valB p b ws t : Nat), .bool (okB p b ws t)]) ∧ Below w.heap.size w w' := by
  obtain ⟨s1, s2, s3, s4⟩ := hs
  have HS4 : Aside0 (∀ x ∈ ws, x.length ≤ 4000000) := ⟨fun x hx => by have := s4 x hx; omega⟩
  have HT := Aside0.mk hT
  have HM := Aside0.mk hM
  have HPG := Aside0.mk (fun W (h : Texts W A c ws) => isScheme_any (p := p) (b := b) (by omega) (by omega) (by omega) HS4.out W h)
  have HPS := Aside0.mk (fun W => areSigns_any t (by omega) 0 8 W)
  have hB0 : Below (w.heap.size + 1) (w.alloc (.cells #[.string (str p), .string (str b), .slice A ws.length c] 28)) (w.alloc (.cells #[.string (str p), .string (str b), .slice A ws.length c] 28)) := Below.refl _ _
  have hB1 : Aside0 (Below w.heap.size w (w.alloc (.cells #[.string (str p), .string (str b), .slice A ws.length c] 28))) := ⟨(Below.refl _ w).alloc (Nat.le_refl _) _⟩
  have HB0 := Aside0.mk hB0
  clear s4 hT hM hB0
  rcases ok_ways p b ws t with ⟨g1, g3, g4⟩ | ⟨g1, g2, g3, g4⟩ | ⟨g1, g2, g3, g4⟩
  · rw [g1] at HPG
    rw [g3, g4]
    clear g1 g3 g4
    go_enter Tryd.func28, Tryd.ntmps28
    go_wp2_with (go_at_call 51; refine (HPG.out _ (texts_below HT.out hB1.out)).mono ?_; rintro e w1 ⟨rfl, hb1⟩; have HB1 := Aside0.mk (hB1.out.trans (hb1.mono hB1.out.size)); clear hb1)
    refine bodyPost_ret (results_tmp2 rfl _ _ _) rfl ?_
    exact ⟨rfl, HB1.out⟩
  · rw [g1] at HPG
    rw [g2] at HPS
    rw [g3, g4]
    clear g1 g2 g3 g4
    go_enter Tryd.func28, Tryd.ntmps28
    go_wp2_with (first | (go_at_call 51; refine (HPG.out _ (texts_below HT.out hB1.out)).mono ?_; rintro e w1 ⟨rfl, hb1⟩; have HB1 := Aside0.mk (hB1.out.trans (hb1.mono hB1.out.size)); clear hb1) | (go_at_call 52; refine (HPS.out _).mono ?_; rintro e w' ⟨rfl, ⟨nd, rfl⟩⟩))
    refine bodyPost_ret (results_tmp2 rfl _ _ _) rfl ?_
    exact ⟨rfl, pw_below_drewN HB1.out _⟩
  · have HBG := Aside0.mk (fun w0 hT0 hM0 bm hbm W hB hM => beginning_any (A := A) (c := c) (good_of g1) w0 hT0 hM0 bm hbm t (by omega) 0 (by omega) W hB hM)
    have HCO := Aside0.mk (fun W => counterOf_any (p := p) (b := b) (ws := ws) (A := A) (c := c) W)
    rw [g1] at HPG
    rw [g2] at HPS
    rw [g3, g4]
    clear g1 g2 g3 g4
    go_enter Tryd.func28, Tryd.ntmps28
    go_wp2_with (first | (go_at_call 51; refine (HPG.out _ (texts_below HT.out hB1.out)).mono ?_; rintro e w1 ⟨rfl, hb1⟩; have HB1 := Aside0.mk (hB1.out.trans (hb1.mono hB1.out.size)); obtain ⟨k0, k1, k2⟩ := box_cells (HB0.out.trans (hb1.mono (by rw [al_size]; omega))); clear hb1) | (go_at_call 52; refine (HPS.out _).mono ?_; rintro e w' ⟨rfl, ⟨nd, rfl⟩⟩) | (go_at_call 58; refine (HCO.out _).mono ?_; rintro e w3 ⟨bm, rfl, hm3, hbm3, hb3⟩; have HB3 := Aside0.mk ((pw_below_drewN HB1.out nd).trans (hb3.out.mono (pw_below_drewN HB1.out nd).size)); have HM3 := hm3; have HBM := Aside0.mk (Nat.le_trans (pw_below_drewN HB1.out nd).size hbm3.out); clear hb3 hm3 hbm3) | (go_at_call 60; refine (HBG.out w HT.out HM.out bm HBM.out _ HB3.out HM3.out).mono ?_; rintro e w4 ⟨rfl, hm4, hg4⟩; have HB4 := Aside0.mk (HB3.out.trans (below_grown hg4.out HBM.out HB3.out.size)); clear hm4 hg4))
    refine bodyPost_ret (results_tmp2 rfl _ _ _) rfl ?_
    exact ⟨rfl, HB4.out⟩

theorem box24_cells {w W : World} {p b : T} {A : Option Addr} {n c : Nat} (h : Below (w.heap.size + 1) (w.alloc (.cells #[.string (str p), .string (str b), .slice A n c] 24)) W) :
    W.cell? ⟨w.heap.size, 0, none⟩ = some (.string (str p)) ∧ W.cell? ⟨w.heap.size, 1, none⟩ = some (.string (str b)) ∧ W.cell? ⟨w.heap.size, 2, none⟩ = some (.slice A n c) := by
  have hx := (h.block w.heap.size (Nat.lt_succ_self _)).trans (al_new w (.cells #[.string (str p), .string (str b), .slice A n c] 24) _ rfl)
  exact ⟨(Go.Joins.cell_of_block hx 0).trans rfl, (Go.Joins.cell_of_block hx 1).trans rfl, (Go.Joins.cell_of_block hx 2).trans rfl⟩

def lawBegin.T12 : Bool × List (List Nat × List Nat) := (true, [([], []), ([], []), ([1], [1]), ([0, 2, 2], [0, 2]), ([3], [3])])
def lawBegin.B12 : List Nat := [0, 0, 2, 7, 15]
theorem lawBegin.tab12 : rtab .any (opsOf Tryd.f7 12) = lawBegin.T12 := by kernel_rfl
theorem lawBegin.bits12 : waitsOk lawBegin.T12.2 lawBegin.B12 = true := by kernel_rfl

set_option maxRecDepth 100000 in
set_option maxHeartbeats 8000000 in
theorem lawBegin_any {p b : T} {ws : List T} {A : Option Addr} {c : Nat} (hp : p.length ≤ 9223372036854775807) (hb : b.length ≤ 9223372036854775807) (hl : ws.length ≤ 9223372036854775807) (hw : ∀ x ∈ ws, x.length ≤ 9223372036854775807) (t : T) (ht : t.length ≤ 9223372036854775807) (w : World) (hT : Texts w A c ws) (hM : ML w) :
    Calls Tryd.prog 7 #[.agg #[.string (str p), .string (str b), .slice A ws.length c], .string (str t)] w fun e w' => e = .returned (.bool true) ∧ Below w.heap.size w w' := by
  have hsz := str_size t
  have HT := Aside0.mk hT
  have HM := Aside0.mk hM
  have HSZ := Aside0.mk (fun W (h : Texts W A c ws) => szScheme_any hp hb hl hw W h)
  have hB1 : Aside0 (Below w.heap.size w (w.alloc (.cells #[.string (str p), .string (str b), .slice A ws.length c] 24))) := ⟨(Below.refl _ w).alloc (Nat.le_refl _) _⟩
  have hC1 : Aside0 (Below (w.heap.size + 1) (w.alloc (.cells #[.string (str p), .string (str b), .slice A ws.length c] 24)) (w.alloc (.cells #[.string (str p), .string (str b), .slice A ws.length c] 24))) := ⟨Below.refl _ _⟩
  clear hT hM hw
  by_cases c1 : t.length ≤ 1048576
  case neg =>
    go_enter Tryd.func7, Tryd.ntmps7
    go_wp2
    go_ret
    exact ⟨rfl, hB1.out⟩
  go_enter Tryd.func7, Tryd.ntmps7
  go_wp2_with (first
    | (go_at_call 14; refine (HSZ.out _ (texts_below HT.out hB1.out)).mono ?_; rintro e w2 ⟨v, rfl, hv, hb2⟩; have HB2 := Aside0.mk (hB1.out.trans (hb2.mono hB1.out.size)); have HC2 := Aside0.mk (hC1.out.trans (hb2.mono (by rw [al_size]; omega))); have HSM := Aside0.mk (fun h : 0 ≤ v => (show Small p b ws from hv h)); obtain ⟨k0, k1, k2⟩ := box24_cells HC2.out; clear hv hb2)
    | (go_at_call 16; refine (toScheme_any (HSM.out (by omega)).2.2.1 _ (texts_below HT.out HB2.out)).mono ?_; rintro e w3 ⟨A3, c3, rfl, hT3, hb3⟩; have HT3 := Aside0.mk hT3; have HB3 := Aside0.mk (HB2.out.trans (hb3.mono HB2.out.size)); have HC3 := Aside0.mk (HC2.out.trans (hb3.mono (Nat.le_trans (by rw [al_size]; omega) HC2.out.size))); clear HB2 HC2 k0 k1 k2 hb3 hT3)
    | (go_at_call 27; refine (specBegin_any (HSM.out (by omega)) t c1 _ HT3.out).mono ?_; rintro e w4 ⟨rfl, hb4⟩; have HB4 := Aside0.mk (HB3.out.trans (hb4.mono HB3.out.size)); have HC4 := Aside0.mk (HC3.out.trans (hb4.mono (Nat.le_trans (by rw [al_size]; omega) HC3.out.size))); obtain ⟨k0, k1, k2⟩ := box24_cells HC4.out; clear HB3 HC3 hb4)
    | (go_at_call 16; refine (toScheme_any (HSM.out (by omega)).2.2.1 _ (texts_below HT.out HB4.out)).mono ?_; rintro e w5 ⟨A5, c5, rfl, hT5, hb5⟩; have HT5 := Aside0.mk hT5; have HB5 := Aside0.mk (HB4.out.trans (hb5.mono HB4.out.size)); have HC5 := Aside0.mk (HC4.out.trans (hb5.mono (Nat.le_trans (by rw [al_size]; omega) HC4.out.size))); have HL5 : Aside0 (w.heap.size + 1 ≤ w5.heap.size) := ⟨Nat.le_trans (by rw [al_size]; omega) HC5.out.size⟩; clear HB4 HC4 k0 k1 k2 hb5 hT5)
    | (go_at_call 28; refine (implBegin_any (HSM.out (by omega)) t c1 _ (texts_below HT5.out ((Below.refl _ w5).alloc (Nat.le_refl _) _)) (ml_below HM.out (HB5.out.alloc HB5.out.size _))).mono ?_; rintro e w7 ⟨rfl, hb7⟩; have HB7 := Aside0.mk ((HB5.out.alloc HB5.out.size _).trans (hb7.mono (HB5.out.alloc HB5.out.size _).size)); have HC7 := Aside0.mk ((HC5.out.alloc HL5.out _).trans (hb7.mono (by rw [al_size]; have := HL5.out; omega))); have HD7 := Aside0.mk (hb7.mono (show w5.heap.size + 1 ≤ _ by rw [al_size]; omega)); have HX7 := Aside0.mk (texts_below (texts_below HT5.out ((Below.refl _ w5).alloc (Nat.le_refl _) _)) hb7); clear hb7))
  rotate_left
  focus
    have HS7 := Aside0.mk (And.intro (box24_cells HC7.out).1 (And.intro (box24_cells HC7.out).2.1 (And.intro (box24_cells HC7.out).2.2 (box_cells HD7.out))))
    have HB8 := Aside0.mk (below_drew1 HB7.out)
    have HX8 : Aside0 (Texts w7.drew A5 c5 ws) := ⟨texts_below HX7.out (below_drew1 (Below.refl _ w7))⟩
    have hsl := (HSM.out (by omega)).2.2.1
    have HTO := Aside0.mk (fun W (h : Texts W A c ws) => toScheme_any (p := p) (b := b) hsl W h)
    refine start_ (n := 5) (S := fun w' => w'.cell? ⟨w.heap.size, 0, none⟩ = some (.string (str p)) ∧ w'.cell? ⟨w.heap.size, 1, none⟩ = some (.string (str b)) ∧ w'.cell? ⟨w.heap.size, 2, none⟩ = some (.slice A ws.length c) ∧ w'.cell? ⟨w5.heap.size, 0, none⟩ = some (.string (str p)) ∧ w'.cell? ⟨w5.heap.size, 1, none⟩ = some (.string (str b)) ∧ w'.cell? ⟨w5.heap.size, 2, none⟩ = some (.slice A5 ws.length c5)) (ds := []) #[false, false, false, false, false] (by kernel_rfl) rfl rfl HS7.out (fun hHeld => ?_); refine with_tabW lawBegin.tab12 lawBegin.bits12 (fun HT_ HW_ => ?_)
    generalize w7.drew = w8 at HB8 HX8 hHeld ⊢
    refine take_ (i := 0) (N := some 42) (v := ?_) (a' := ?_) #[true, false, false, false, false] rfl rfl (take_ofW HT_.out HW_.out (by kernel_rfl)) (fun _ _ _ h => h) (Or.inl ⟨by rfl, ?_⟩) hHeld ?_ ?_
    rotate_left
    · rintro w' ⟨s0, s1, s2, s3, s4, s5⟩
      go_simp
      with_reducible rfl
    rotate_left
    · simp only [Act.put, List.setIfInBounds_toArray, List.set_cons_zero, List.set_cons_succ, i64_w, i32_w]
      rfl
    refine take_ (i := 1) (N := some 43) (v := ?_) (a' := ?_) #[true, true, false, false, false] rfl rfl (take_ofW HT_.out HW_.out (by kernel_rfl)) (fun _ _ _ h => h) (Or.inl ⟨by rfl, ?_⟩) hHeld ?_ ?_
    rotate_left
    · rintro w' ⟨s0, s1, s2, s3, s4, s5⟩
      go_simp
      with_reducible rfl
    rotate_left
    · simp only [Act.put, List.setIfInBounds_toArray, List.set_cons_zero, List.set_cons_succ, i64_w, i32_w]
      rfl
    refine one_ (i := 2) (N := some 44) #[true, true, true, false, false] rfl rfl (one_of HT_.out (by kernel_rfl)) (by decide) (fun K hK => ?_)
    refine goes_ Tryd.func16 (by kernel_rfl) rfl #[.agg #[.string (str p), .string (str b), .slice A ws.length c]] (by rfl) rfl rfl (by (try simp only [List.map_toArray, List.map_cons, List.map_nil]); first | done | rfl) ?_
    refine (HTO.out _ (texts_below HT.out HB8.out)).mono ?_
    rintro e w9 ⟨A9, c9, rfl, hT9, hb9⟩
    have HT9 := Aside0.mk hT9
    have HB9 := Aside0.mk (HB8.out.trans (hb9.mono HB8.out.size))
    have HX9 := Aside0.mk (texts_below HX8.out hb9)
    clear hT9
    refine ⟨_, rfl, ?_⟩
    refine hK.out _ _ ⟨(hb9.cell (World.block_lt_of_cell? _ _ hHeld.1)).trans hHeld.1, (hb9.cell (World.block_lt_of_cell? _ _ hHeld.2.1)).trans hHeld.2.1, (hb9.cell (World.block_lt_of_cell? _ _ hHeld.2.2.1)).trans hHeld.2.2.1, (hb9.cell (World.block_lt_of_cell? _ _ hHeld.2.2.2.1)).trans hHeld.2.2.2.1, (hb9.cell (World.block_lt_of_cell? _ _ hHeld.2.2.2.2.1)).trans hHeld.2.2.2.2.1, (hb9.cell (World.block_lt_of_cell? _ _ hHeld.2.2.2.2.2)).trans hHeld.2.2.2.2.2⟩ (fun hHeld => ?_)
    clear hK K
    refine norm_ (a' := ?_) ?_ ?_
    rotate_left
    · show Act.put _ (some 44) _ = _
      simp only [Act.put, List.setIfInBounds_toArray, List.set_cons_zero, List.set_cons_succ, i64_w, i32_w]
      rfl
    refine one_ (i := 3) (N := some 45) #[true, true, true, true, false] rfl rfl (one_of HT_.out (by kernel_rfl)) (by decide) (fun K hK => ?_)
    refine goes_ Tryd.func18 (by kernel_rfl) rfl #[.agg #[.string (str p), .string (str b), .slice A5 ws.length c5], .agg #[.string (str p), .string (str b), .slice A9 ws.length c9]] (by rfl) rfl rfl (by (try simp only [List.map_toArray, List.map_cons, List.map_nil]); first | done | rfl) ?_
    refine (eqScheme_any (by omega) _ HX9.out HT9.out).mono ?_
    rintro e w10 ⟨rfl, hb10⟩
    have HB10 := Aside0.mk (HB9.out.trans (hb10.mono HB9.out.size))
    refine ⟨_, rfl, ?_⟩
    refine hK.out _ _ ⟨(hb10.cell (World.block_lt_of_cell? _ _ hHeld.1)).trans hHeld.1, (hb10.cell (World.block_lt_of_cell? _ _ hHeld.2.1)).trans hHeld.2.1, (hb10.cell (World.block_lt_of_cell? _ _ hHeld.2.2.1)).trans hHeld.2.2.1, (hb10.cell (World.block_lt_of_cell? _ _ hHeld.2.2.2.1)).trans hHeld.2.2.2.1, (hb10.cell (World.block_lt_of_cell? _ _ hHeld.2.2.2.2.1)).trans hHeld.2.2.2.2.1, (hb10.cell (World.block_lt_of_cell? _ _ hHeld.2.2.2.2.2)).trans hHeld.2.2.2.2.2⟩ (fun hHeld => ?_)
    clear hK K
    refine norm_ (a' := ?_) ?_ ?_
    rotate_left
    · show Act.put _ (some 45) _ = _
      simp only [Act.put, List.setIfInBounds_toArray, List.set_cons_zero, List.set_cons_succ, i64_w, i32_w]
      rfl
    refine pure_ (i := 4) (N := some 46) (v := ?_) (a' := ?_) #[true, true, true, true, true] rfl rfl (any_of HT_.out (by kernel_rfl)) (fun _ _ _ h => h) (Or.inl ⟨by rfl, ?_⟩) ?_ ?_
    rotate_left
    · intro w'
      go_simp
      with_reducible rfl
    rotate_left
    · simp only [Act.put, List.setIfInBounds_toArray, List.set_cons_zero, List.set_cons_succ, i64_w, i32_w]
      rfl
    refine done_ (done_of HT_.out (by kernel_rfl)) ?_
    go_wp2
    go_ret
    exact ⟨rfl, HB10.out⟩
  go_ret
  exact ⟨rfl, HB2.out⟩
end Go.Proofs.YtoieadofldkccaaDoor.Plates
