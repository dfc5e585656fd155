/-
  Plates: both sides of PlatesBetween; the law.
-/
import Derived.Test.YtoieadofldkccaaDoorHPSpecRank
import Derived.Test.YtoieadofldkccaaDoorHPLawBegin
namespace Go.Proofs.YtoieadofldkccaaDoor.Plates
open Go.RowKit Go.Proofs.YtoieadofldkccaaDoorW.PrintWords Go.Proofs.YtoieadofldkccaaDoorW.PrintLast Go.Proofs.YtoieadofldkccaaDoorW.PrintMore Go.Proofs.YtoieadofldkccaaDoor.PFnExactCountBeginning
open PFake (ML ml_below)
set_option linter.unusedVariables false
set_option linter.unusedSimpArgs false

/-- a plate of a scheme -/
noncomputable def okI (p b : T) (ws : List T) (t : T) : Bool := goodB p b ws && isB p b ws t
theorem okI_of {p b : T} {ws : List T} {t : T} (h : okI p b ws t = true) : Good p b ws ∧ Is p b ws t := by
  unfold okI at h
  rw [Bool.and_eq_true] at h
  exact ⟨good_of h.1, is_of h.2⟩
theorem Is.fits {p b : T} {ws : List T} {t : T} (h : Is p b ws t) : Fits p b t := h.2.1
theorem rankN_le {p : T} (b : T) (ws : List T) (t : T) (h : p.length ≤ 8) (ht : t.length = p.length) : rankN p b ws t ≤ 43436029431808 := by
  have := rankTo_le b ws t h t.length
  unfold rankN
  omega
theorem small_texts {p b : T} {ws : List T} (hs : Small p b ws) : p.length ≤ 4000000 ∧ b.length ≤ 4000000 ∧ ws.length ≤ 4000000 ∧ ∀ x ∈ ws, x.length ≤ 4000000 := by
  obtain ⟨s1, s2, s3, s4⟩ := hs
  exact ⟨by omega, by omega, by omega, fun x hx => by have := s4 x hx; omega⟩

theorem l1Most_any (x : Int) (w : World) : Calls Tryd.prog 65 #[.int .i64 0, .int .i64 x] w fun e w' => e = .returned (.int .i64 (if x < 0 then 0 else x)) ∧ w' = w := by
  by_cases h : x < 0
  · rw [if_pos h]
    go_enter Tryd.func65, Tryd.ntmps65
    go_wp2
    go_ret
    exact ⟨rfl, rfl⟩
  · rw [if_neg h]
    go_enter Tryd.func65, Tryd.ntmps65
    go_wp2
    go_ret
    exact ⟨rfl, rfl⟩

/-- the answer -/
noncomputable def okW (p b : T) (ws : List T) (t t2 : T) : Bool := okI p b ws t && (okI p b ws t2 && !Op.bytesLess t2 t)
noncomputable def valW (p b : T) (ws : List T) (t t2 : T) : Int := if okW p b ws t t2 = true then (if ((rankN p b ws t2 : Nat) : Int) - (rankN p b ws t : Nat) - 1 < 0 then 0 else ((rankN p b ws t2 : Nat) : Int) - (rankN p b ws t : Nat) - 1) else 0
theorem okW_no {p b : T} {ws : List T} {t t2 : T} (h : okI p b ws t = false ∨ okI p b ws t2 = false ∨ Op.bytesLess t2 t = true) : okW p b ws t t2 = false ∧ valW p b ws t t2 = 0 := by
  have : okW p b ws t t2 = false := by
    unfold okW
    rcases h with h | h | h <;> rw [h] <;> simp
  exact ⟨this, by unfold valW; rw [this]; rfl⟩
theorem okW_yes {p b : T} {ws : List T} {t t2 : T} (h : okI p b ws t = true) (h2 : okI p b ws t2 = true) (h3 : Op.bytesLess t2 t = false) : okW p b ws t t2 = true ∧ valW p b ws t t2 = if ((rankN p b ws t2 : Nat) : Int) - (rankN p b ws t : Nat) - 1 < 0 then 0 else ((rankN p b ws t2 : Nat) : Int) - (rankN p b ws t : Nat) - 1 := by
  have : okW p b ws t t2 = true := by unfold okW; rw [h, h2, h3]; rfl
  exact ⟨this, by unfold valW; rw [if_pos this]⟩

def betweenS.T3 : Bool × List (List Nat × List Nat) := (true, [([], []), ([], []), ([0, 1], [0, 1]), ([], []), ([], []), ([3, 4, 2], [3, 4]), ([2, 5], [2, 5]), ([6], [6]), ([7, 5], [7]), ([8, 8, 0, 1, 2, 3, 4, 5, 6, 7, 8], [8]), ([9, 0, 1, 2, 3, 4, 5, 6, 7, 8, 9], [])])
def betweenS.B3 : List Nat := [0, 0, 3, 0, 0, 31, 63, 127, 255, 511, 1023]
theorem betweenS.tab3 : rtab .any (opsOf Tryd.f35 3) = betweenS.T3 := by kernel_rfl
theorem betweenS.bits3 : waitsOk betweenS.T3.2 betweenS.B3 = true := by kernel_rfl
def betweenI.T4 : Bool × List (List Nat × List Nat) := (true, [([], []), ([], []), ([0, 1], [0, 1]), ([], []), ([], []), ([3, 4, 2], [3, 4]), ([2, 5], [2, 5]), ([6], [6]), ([7], [7]), ([8, 5, 0, 1, 2, 3, 4, 5, 6, 7, 8], [8]), ([9, 0, 1, 2, 3, 4, 5, 6, 7, 8, 9], [])])
def betweenI.B4 : List Nat := [0, 0, 3, 0, 0, 31, 63, 127, 255, 511, 1023]
theorem betweenI.tab4 : rtab .any (opsOf Tryd.f36 4) = betweenI.T4 := by kernel_rfl
theorem betweenI.bits4 : waitsOk betweenI.T4.2 betweenI.B4 = true := by kernel_rfl

set_option maxRecDepth 100000 in
set_option maxHeartbeats 8000000 in
theorem specBetween_any {p b : T} {ws : List T} {A : Option Addr} {c : Nat} (hs : Small p b ws) (t : T) (ht : t.length ≤ 1048576) (t2 : T) (ht2 : t2.length ≤ 1048576) (w : World) (hT : Texts w A c ws) :
    Calls Tryd.prog 35 #[.agg #[.string (str p), .string (str b), .slice A ws.length c], .string (str t), .string (str t2)] w fun e w' => e = .returned (.tuple #[.int .i64 (valW p b ws t t2), .bool (okW p b ws t t2)]) ∧ Below w.heap.size w w' := by
  obtain ⟨s1, s2, s3, s4⟩ := small_texts hs
  have HT := Aside0.mk hT
  have HBO := Aside0.mk (fun (x : T) (hx : x.length ≤ 1048576) W (h : Texts W A c ws) => plBoth_any (p := p) (b := b) s1 s2 s3 s4 x (by omega) W h)
  have hB1 : Aside0 (Below w.heap.size w (w.alloc (.cells #[.string (str p), .string (str b), .slice A ws.length c] 28))) := ⟨(Below.refl _ w).alloc (Nat.le_refl _) _⟩
  have HX1 : Aside0 ((w.alloc (.cells #[.string (str p), .string (str b), .slice A ws.length c] 28)).heap[w.heap.size]? = some (boxS p b A ws.length c)) := ⟨al_new _ _ _ rfl⟩
  clear s4 hT hs
  change Aside0 (∀ (x : T) (hx : x.length ≤ 1048576) W (h : Texts W A c ws), Calls _ _ _ _ (fun e w' => e = .returned (.bool (okI p b ws x)) ∧ _)) at HBO
  cases hg : okI p b ws t with
  | false =>
    obtain ⟨v1, v2⟩ := okW_no (p := p) (b := b) (ws := ws) (t := t) (t2 := t2) (.inl hg)
    rw [v1, v2]
    clear v1 v2
    go_enter Tryd.func35, Tryd.ntmps35
    go_wp2_with (go_at_call 42; refine (HBO.out _ (by omega) _ (texts_below HT.out hB1.out)).mono ?_; rintro e w1 ⟨rfl, hb1⟩; have HB1 := Aside0.mk (hB1.out.trans (hb1.mono hB1.out.size)); have HXA := Aside0.mk (below_box hb1 HX1.out); obtain ⟨k0, k1, k2⟩ := box3_cells HXA.out; clear hb1)
    refine bodyPost_ret (results_tmp2 rfl _ _ _) rfl ?_
    exact ⟨rfl, HB1.out⟩
  | true =>
  cases hg2 : okI p b ws t2 with
  | false =>
    obtain ⟨v1, v2⟩ := okW_no (p := p) (b := b) (ws := ws) (t := t) (t2 := t2) (.inr (.inl hg2))
    rw [v1, v2]
    clear v1 v2
    go_enter Tryd.func35, Tryd.ntmps35
    go_wp2_with (first | (go_at_call 42; refine (HBO.out _ (by omega) _ (texts_below HT.out hB1.out)).mono ?_; rintro e w1 ⟨rfl, hb1⟩; have HB1 := Aside0.mk (hB1.out.trans (hb1.mono hB1.out.size)); have HXA := Aside0.mk (below_box hb1 HX1.out); obtain ⟨k0, k1, k2⟩ := box3_cells HXA.out; clear hb1) | (go_at_call 42; refine (HBO.out _ (by omega) _ (texts_below HT.out HB1.out)).mono ?_; rintro e w4 ⟨rfl, hb4⟩; have HB4 := Aside0.mk (HB1.out.trans (hb4.mono HB1.out.size)); have HX4 := Aside0.mk (below_box hb4 HXA.out); clear hb4 k0 k1 k2))
    refine bodyPost_ret (results_tmp2 rfl _ _ _) rfl ?_
    exact ⟨rfl, HB4.out⟩
  | true =>
  cases hlt : Op.bytesLess t2 t with
  | true =>
    obtain ⟨v1, v2⟩ := okW_no (p := p) (b := b) (ws := ws) (t := t) (t2 := t2) (.inr (.inr hlt))
    rw [v1, v2]
    clear v1 v2
    go_enter Tryd.func35, Tryd.ntmps35
    go_wp2_with (first | (go_at_call 42; refine (HBO.out _ (by omega) _ (texts_below HT.out hB1.out)).mono ?_; rintro e w1 ⟨rfl, hb1⟩; have HB1 := Aside0.mk (hB1.out.trans (hb1.mono hB1.out.size)); have HXA := Aside0.mk (below_box hb1 HX1.out); obtain ⟨k0, k1, k2⟩ := box3_cells HXA.out; clear hb1) | (go_at_call 42; refine (HBO.out _ (by omega) _ (texts_below HT.out HB1.out)).mono ?_; rintro e w4 ⟨rfl, hb4⟩; have HB4 := Aside0.mk (HB1.out.trans (hb4.mono HB1.out.size)); have HX4 := Aside0.mk (below_box hb4 HXA.out); clear hb4 k0 k1 k2))
    refine bodyPost_ret (results_tmp2 rfl _ _ _) rfl ?_
    exact ⟨rfl, HB4.out⟩
  | false =>
    obtain ⟨v1, v2⟩ := okW_yes hg hg2 hlt
    rw [v1, v2]
    clear v1 v2
    have hgood := (okI_of hg).1
    have his := (okI_of hg).2
    have his2 := (okI_of hg2).2
    have p8 := hgood.p8
    have hR := rankN_le b ws t p8 his.1
    have hR2 := rankN_le b ws t2 p8 his2.1
    have HRK := Aside0.mk (fun W (h : Texts W A c ws) => plRank_any hgood t his.fits W h)
    have HRK2 := Aside0.mk (fun W (h : Texts W A c ws) => plRank_any hgood t2 his2.fits W h)
    generalize rankN p b ws t = R at HRK hR ⊢
    generalize rankN p b ws t2 = R2 at HRK2 hR2 ⊢
    have e1 : wrap64 ((R2 : Int) - R) = (R2 : Int) - R := wi (by omega) (by omega)
    have e2 : wrap64 ((R2 : Int) - R - 1) = (R2 : Int) - R - 1 := wi (by omega) (by omega)
    have HV : Aside0 ((if (R2 : Int) - R - 1 < 0 then 0 else (R2 : Int) - R - 1) = if (R2 : Int) - R - 1 < 0 then 0 else (R2 : Int) - R - 1) := ⟨rfl⟩
    clear hgood his his2
    generalize hval : (if (R2 : Int) - R - 1 < 0 then 0 else (R2 : Int) - R - 1) = va
    have HVA := Aside0.mk hval
    clear hval HV
    go_enter Tryd.func35, Tryd.ntmps35
    go_wp2_with (first | (go_at_call 42; refine (HBO.out _ (by omega) _ (texts_below HT.out hB1.out)).mono ?_; rintro e w1 ⟨rfl, hb1⟩; have HB1 := Aside0.mk (hB1.out.trans (hb1.mono hB1.out.size)); have HXA := Aside0.mk (below_box hb1 HX1.out); obtain ⟨k0, k1, k2⟩ := box3_cells HXA.out; clear hb1) | (go_at_call 42; refine (HBO.out _ (by omega) _ (texts_below HT.out HB1.out)).mono ?_; rintro e w4 ⟨rfl, hb4⟩; have HB4 := Aside0.mk (HB1.out.trans (hb4.mono HB1.out.size)); have HX4 := Aside0.mk (below_box hb4 HXA.out); clear hb4 k0 k1 k2))
    have HB5 := Aside0.mk (below_drew1 HB4.out)
    have HX5 : Aside0 (w4.drew.heap[w.heap.size]? = some (boxS p b A ws.length c)) := ⟨HX4.out⟩
    refine start_ (n := 11) (S := fun w' => w'.cell? ⟨w.heap.size, 0, none⟩ = some (.string (str p)) ∧ w'.cell? ⟨w.heap.size, 1, none⟩ = some (.string (str b)) ∧ w'.cell? ⟨w.heap.size, 2, none⟩ = some (.slice A ws.length c)) (ds := []) #[false, false, false, false, false, false, false, false, false, false, false] (by kernel_rfl) rfl rfl (box3_cells HX5.out) (fun hHeld => ?_); refine with_tabW betweenS.tab3 betweenS.bits3 (fun HT_ HW_ => ?_)
    generalize w4.drew = w5 at HB5 HX5 hHeld ⊢
    refine take_ (i := 0) (N := some 23) (v := ?_) (a' := ?_) #[true, false, false, false, false, false, false, false, false, false, false] rfl rfl (take_ofW HT_.out HW_.out (by kernel_rfl)) (fun _ _ _ h => h) (Or.inl ⟨by rfl, ?_⟩) hHeld ?_ ?_
    rotate_left
    · rintro w' ⟨s0, s1, s2⟩
      go_simp
      with_reducible rfl
    rotate_left
    · simp only [Act.put, List.setIfInBounds_toArray, List.set_cons_zero, List.set_cons_succ, i64_w, i32_w]
      rfl
    refine pure_ (i := 1) (N := some 24) (v := ?_) (a' := ?_) #[true, true, false, false, false, false, false, false, false, false, false] rfl rfl (any_of HT_.out (by kernel_rfl)) (fun _ _ _ h => h) (Or.inl ⟨by rfl, ?_⟩) ?_ ?_
    rotate_left
    · intro w'
      go_simp
      with_reducible rfl
    rotate_left
    · simp only [Act.put, List.setIfInBounds_toArray, List.set_cons_zero, List.set_cons_succ, i64_w, i32_w]
      rfl
    refine take_ (i := 3) (N := some 26) (v := ?_) (a' := ?_) #[true, true, false, true, false, false, false, false, false, false, false] rfl rfl (take_ofW HT_.out HW_.out (by kernel_rfl)) (fun _ _ _ h => h) (Or.inl ⟨by rfl, ?_⟩) hHeld ?_ ?_
    rotate_left
    · rintro w' ⟨s0, s1, s2⟩
      go_simp
      with_reducible rfl
    rotate_left
    · simp only [Act.put, List.setIfInBounds_toArray, List.set_cons_zero, List.set_cons_succ, i64_w, i32_w]
      rfl
    refine pure_ (i := 4) (N := some 27) (v := ?_) (a' := ?_) #[true, true, false, true, true, false, false, false, false, false, false] rfl rfl (any_of HT_.out (by kernel_rfl)) (fun _ _ _ h => h) (Or.inl ⟨by rfl, ?_⟩) ?_ ?_
    rotate_left
    · intro w'
      go_simp
      with_reducible rfl
    rotate_left
    · simp only [Act.put, List.setIfInBounds_toArray, List.set_cons_zero, List.set_cons_succ, i64_w, i32_w]
      rfl
    refine one_ (i := 2) (N := some 25) #[true, true, true, true, true, false, false, false, false, false, false] rfl rfl (one_of HT_.out (by kernel_rfl)) (by decide) (fun K hK => ?_)
    refine goes_ Tryd.func43 (by kernel_rfl) rfl #[.agg #[.string (str p), .string (str b), .slice A ws.length c], .string (str t2)] (by rfl) rfl rfl (by (try simp only [List.map_toArray, List.map_cons, List.map_nil]); first | done | rfl) ?_
    refine (HRK2.out _ (texts_below HT.out HB5.out)).mono ?_
    rintro e w6 ⟨rfl, hb⟩
    have HB6 := Aside0.mk (HB5.out.trans (hb.mono HB5.out.size))
    have HX6 := Aside0.mk (below_box hb HX5.out)
    clear hb
    refine ⟨_, rfl, ?_⟩
    refine hK.out _ _ (box3_cells HX6.out) (fun hHeld => ?_)
    clear hK K
    refine norm_ (a' := ?_) ?_ ?_
    rotate_left
    · show Act.put _ (some 25) _ = _
      simp only [Act.put, List.setIfInBounds_toArray, List.set_cons_zero, List.set_cons_succ, i64_w, i32_w]
      rfl
    refine one_ (i := 5) (N := some 28) #[true, true, true, true, true, true, false, false, false, false, false] rfl rfl (one_of HT_.out (by kernel_rfl)) (by decide) (fun K hK => ?_)
    refine goes_ Tryd.func43 (by kernel_rfl) rfl #[.agg #[.string (str p), .string (str b), .slice A ws.length c], .string (str t)] (by rfl) rfl rfl (by (try simp only [List.map_toArray, List.map_cons, List.map_nil]); first | done | rfl) ?_
    refine (HRK.out _ (texts_below HT.out HB6.out)).mono ?_
    rintro e w7 ⟨rfl, hb⟩
    have HB7 := Aside0.mk (HB6.out.trans (hb.mono HB6.out.size))
    have HX7 := Aside0.mk (below_box hb HX6.out)
    clear hb
    refine ⟨_, rfl, ?_⟩
    refine hK.out _ _ (box3_cells HX7.out) (fun hHeld => ?_)
    clear hK K
    refine norm_ (a' := ?_) ?_ ?_
    rotate_left
    · show Act.put _ (some 28) _ = _
      simp only [Act.put, List.setIfInBounds_toArray, List.set_cons_zero, List.set_cons_succ, i64_w, i32_w]
      rfl
    refine pure_ (i := 6) (N := some 29) (v := ?_) (a' := ?_) #[true, true, true, true, true, true, true, false, false, false, false] rfl rfl (any_of HT_.out (by kernel_rfl)) (fun _ _ _ h => h) (Or.inl ⟨by rfl, ?_⟩) ?_ ?_
    rotate_left
    · intro w'
      go_simp
      with_reducible rfl
    rotate_left
    · simp only [Act.put, List.setIfInBounds_toArray, List.set_cons_zero, List.set_cons_succ, i64_w, i32_w]
      rfl
    refine pure_ (i := 7) (N := some 30) (v := ?_) (a' := ?_) #[true, true, true, true, true, true, true, true, false, false, false] rfl rfl (any_of HT_.out (by kernel_rfl)) (fun _ _ _ h => h) (Or.inl ⟨by rfl, ?_⟩) ?_ ?_
    rotate_left
    · intro w'
      go_simp
      with_reducible rfl
    rotate_left
    · simp only [Act.put, List.setIfInBounds_toArray, List.set_cons_zero, List.set_cons_succ, i64_w, i32_w]
      rfl
    refine one_ (i := 8) (N := some 31) #[true, true, true, true, true, true, true, true, true, false, false] rfl rfl (one_of HT_.out (by kernel_rfl)) (by decide) (fun K hK => ?_)
    refine goes_ Tryd.func65 (by kernel_rfl) rfl #[.int .i64 0, .int .i64 (wrap64 ((R2 : Int) - R - 1))] (by rfl) rfl rfl (by (try simp only [List.map_toArray, List.map_cons, List.map_nil]); first | done | rfl) ?_
    rw [e2]
    refine (l1Most_any _ _).mono ?_
    rintro e w8 ⟨rfl, rfl⟩
    rw [HVA.out]
    refine ⟨_, rfl, ?_⟩
    refine hK.out _ _ (box3_cells HX7.out) (fun hHeld => ?_)
    clear hK K
    refine norm_ (a' := ?_) ?_ ?_
    rotate_left
    · show Act.put _ (some 31) _ = _
      simp only [Act.put, List.setIfInBounds_toArray, List.set_cons_zero, List.set_cons_succ, i64_w, i32_w]
      rfl
    refine pure_ (i := 9) (N := some 6) (v := ?_) (a' := ?_) #[true, true, true, true, true, true, true, true, true, true, false] rfl rfl (any_of HT_.out (by kernel_rfl)) (fun _ _ _ h => h) (Or.inl ⟨by rfl, ?_⟩) ?_ ?_
    rotate_left
    · intro w'
      go_simp
      with_reducible rfl
    rotate_left
    · simp only [Act.put, List.setIfInBounds_toArray, List.set_cons_zero, List.set_cons_succ, i64_w, i32_w]
      rfl
    refine pure_ (i := 10) (N := some 7) (v := ?_) (a' := ?_) #[true, true, true, true, true, true, true, true, true, true, true] rfl rfl (any_of HT_.out (by kernel_rfl)) (fun _ _ _ h => h) (Or.inl ⟨by rfl, ?_⟩) ?_ ?_
    rotate_left
    · intro w'
      go_simp
      with_reducible rfl
    rotate_left
    · simp only [Act.put, List.setIfInBounds_toArray, List.set_cons_zero, List.set_cons_succ, i64_w, i32_w]
      rfl
    refine done_ (done_of HT_.out (by kernel_rfl)) ?_
    go_wp2
    refine bodyPost_ret (results_tmp2 rfl _ _ _) rfl ?_
    exact ⟨rfl, HB7.out⟩

set_option maxRecDepth 100000 in
set_option maxHeartbeats 8000000 in
theorem implBetween_any {p b : T} {ws : List T} {A : Option Addr} {c : Nat} (hs : Small p b ws) (t : T) (ht : t.length ≤ 1048576) (t2 : T) (ht2 : t2.length ≤ 1048576) (w : World) (hT : Texts w A c ws) (hM : ML w) :
    Calls Tryd.prog 36 #[.agg #[.string (str p), .string (str b), .slice A ws.length c], .string (str t), .string (str t2)] w fun e w' => e = .returned (.tuple #[.int .i64 (valW p b ws t t2), .bool (okW p b ws t t2)]) ∧ Below w.heap.size w w' := by
  obtain ⟨s1, s2, s3, s4⟩ := small_texts hs
  have HT := Aside0.mk hT
  have HM := Aside0.mk hM
  have HBO := Aside0.mk (fun (x : T) (hx : x.length ≤ 1048576) W (h : Texts W A c ws) (g : ML W) => isPlateOf_any (p := p) (b := b) s1 s2 s3 s4 x W h g)
  have hB1 : Aside0 (Below w.heap.size w (w.alloc (.cells #[.string (str p), .string (str b), .slice A ws.length c] 28))) := ⟨(Below.refl _ w).alloc (Nat.le_refl _) _⟩
  have HX1 : Aside0 ((w.alloc (.cells #[.string (str p), .string (str b), .slice A ws.length c] 28)).heap[w.heap.size]? = some (boxS p b A ws.length c)) := ⟨al_new _ _ _ rfl⟩
  clear s4 hT hs hM
  change Aside0 (∀ (x : T) (hx : x.length ≤ 1048576) W (h : Texts W A c ws) (g : ML W), Calls _ _ _ _ (fun e w' => e = .returned (.bool (okI p b ws x)) ∧ _)) at HBO
  cases hg : okI p b ws t with
  | false =>
    obtain ⟨v1, v2⟩ := okW_no (p := p) (b := b) (ws := ws) (t := t) (t2 := t2) (.inl hg)
    rw [v1, v2]
    clear v1 v2
    go_enter Tryd.func36, Tryd.ntmps36
    go_wp2_with (go_at_call 63; refine (HBO.out _ (by omega) _ (texts_below HT.out hB1.out) (ml_below HM.out hB1.out)).mono ?_; rintro e w1 ⟨rfl, hb1⟩; have HB1 := Aside0.mk (hB1.out.trans (hb1.mono hB1.out.size)); have HXA := Aside0.mk (below_box hb1 HX1.out); obtain ⟨k0, k1, k2⟩ := box3_cells HXA.out; clear hb1)
    refine bodyPost_ret (results_tmp2 rfl _ _ _) rfl ?_
    exact ⟨rfl, HB1.out⟩
  | true =>
  cases hg2 : okI p b ws t2 with
  | false =>
    obtain ⟨v1, v2⟩ := okW_no (p := p) (b := b) (ws := ws) (t := t) (t2 := t2) (.inr (.inl hg2))
    rw [v1, v2]
    clear v1 v2
    go_enter Tryd.func36, Tryd.ntmps36
    go_wp2_with (first | (go_at_call 63; refine (HBO.out _ (by omega) _ (texts_below HT.out hB1.out) (ml_below HM.out hB1.out)).mono ?_; rintro e w1 ⟨rfl, hb1⟩; have HB1 := Aside0.mk (hB1.out.trans (hb1.mono hB1.out.size)); have HXA := Aside0.mk (below_box hb1 HX1.out); obtain ⟨k0, k1, k2⟩ := box3_cells HXA.out; clear hb1) | (go_at_call 63; refine (HBO.out _ (by omega) _ (texts_below HT.out HB1.out) (ml_below HM.out HB1.out)).mono ?_; rintro e w4 ⟨rfl, hb4⟩; have HB4 := Aside0.mk (HB1.out.trans (hb4.mono HB1.out.size)); have HX4 := Aside0.mk (below_box hb4 HXA.out); clear hb4 k0 k1 k2; obtain ⟨k0, k1, k2⟩ := box3_cells HX4.out))
    refine bodyPost_ret (results_tmp2 rfl _ _ _) rfl ?_
    exact ⟨rfl, HB4.out⟩
  | true =>
  cases hlt : Op.bytesLess t2 t with
  | true =>
    obtain ⟨v1, v2⟩ := okW_no (p := p) (b := b) (ws := ws) (t := t) (t2 := t2) (.inr (.inr hlt))
    rw [v1, v2]
    clear v1 v2
    go_enter Tryd.func36, Tryd.ntmps36
    go_wp2_with (first | (go_at_call 63; refine (HBO.out _ (by omega) _ (texts_below HT.out hB1.out) (ml_below HM.out hB1.out)).mono ?_; rintro e w1 ⟨rfl, hb1⟩; have HB1 := Aside0.mk (hB1.out.trans (hb1.mono hB1.out.size)); have HXA := Aside0.mk (below_box hb1 HX1.out); obtain ⟨k0, k1, k2⟩ := box3_cells HXA.out; clear hb1) | (go_at_call 63; refine (HBO.out _ (by omega) _ (texts_below HT.out HB1.out) (ml_below HM.out HB1.out)).mono ?_; rintro e w4 ⟨rfl, hb4⟩; have HB4 := Aside0.mk (HB1.out.trans (hb4.mono HB1.out.size)); have HX4 := Aside0.mk (below_box hb4 HXA.out); clear hb4 k0 k1 k2; obtain ⟨k0, k1, k2⟩ := box3_cells HX4.out))
    refine bodyPost_ret (results_tmp2 rfl _ _ _) rfl ?_
    exact ⟨rfl, HB4.out⟩
  | false =>
    obtain ⟨v1, v2⟩ := okW_yes hg hg2 hlt
    rw [v1, v2]
    clear v1 v2
    have hgood := (okI_of hg).1
    have his := (okI_of hg).2
    have his2 := (okI_of hg2).2
    have p8 := hgood.p8
    have hR := rankN_le b ws t p8 his.1
    have hR2 := rankN_le b ws t2 p8 his2.1
    have HRK := Aside0.mk (fun w0 hT0 hM0 bm hbm n hn W hB hM => rank_any (A := A) (c := c) hgood w0 hT0 hM0 bm hbm t (by have := his.1; omega) n hn W hB hM)
    have HRK2 := Aside0.mk (fun w0 hT0 hM0 bm hbm n hn W hB hM => rank_any (A := A) (c := c) hgood w0 hT0 hM0 bm hbm t2 (by have := his2.1; omega) n hn W hB hM)
    have HCO := Aside0.mk (fun W => counterOf_any (p := p) (b := b) (ws := ws) (A := A) (c := c) W)
    unfold RankPost at HRK HRK2
    generalize rankN p b ws t = R at HRK hR ⊢
    generalize rankN p b ws t2 = R2 at HRK2 hR2 ⊢
    have e1 : wrap64 ((R2 : Int) - R) = (R2 : Int) - R := wi (by omega) (by omega)
    have e2 : wrap64 ((R2 : Int) - R - 1) = (R2 : Int) - R - 1 := wi (by omega) (by omega)
    have HV : Aside0 ((if (R2 : Int) - R - 1 < 0 then 0 else (R2 : Int) - R - 1) = if (R2 : Int) - R - 1 < 0 then 0 else (R2 : Int) - R - 1) := ⟨rfl⟩
    clear hgood his his2
    generalize hval : (if (R2 : Int) - R - 1 < 0 then 0 else (R2 : Int) - R - 1) = va
    have HVA := Aside0.mk hval
    clear hval HV
    go_enter Tryd.func36, Tryd.ntmps36
    go_wp2_with (first | (go_at_call 63; refine (HBO.out _ (by omega) _ (texts_below HT.out hB1.out) (ml_below HM.out hB1.out)).mono ?_; rintro e w1 ⟨rfl, hb1⟩; have HB1 := Aside0.mk (hB1.out.trans (hb1.mono hB1.out.size)); have HXA := Aside0.mk (below_box hb1 HX1.out); obtain ⟨k0, k1, k2⟩ := box3_cells HXA.out; clear hb1) | (go_at_call 63; refine (HBO.out _ (by omega) _ (texts_below HT.out HB1.out) (ml_below HM.out HB1.out)).mono ?_; rintro e w4 ⟨rfl, hb4⟩; have HB4 := Aside0.mk (HB1.out.trans (hb4.mono HB1.out.size)); have HX4 := Aside0.mk (below_box hb4 HXA.out); clear hb4 k0 k1 k2; obtain ⟨k0, k1, k2⟩ := box3_cells HX4.out) | (go_at_call 58; refine (HCO.out _).mono ?_; rintro e w3 ⟨bm, rfl, hm3, hbm3, hb3⟩; have HB3 := Aside0.mk (HB4.out.trans (hb3.out.mono HB4.out.size)); have HM3 := hm3; have HBM := Aside0.mk (Nat.le_trans HB4.out.size hbm3.out); clear hb3 hm3 hbm3))
    clear k0 k1 k2
    have hlt3 : Aside0 (bm < w3.heap.size) := ⟨HM3.out.lt⟩
    have hal := (Below.refl w3.heap.size w3).alloc (Nat.le_refl _) (boxC p b A ws.length c bm)
    have HX6 : Aside0 ((w3.alloc (boxC p b A ws.length c bm)).heap[w3.heap.size]? = some (boxC p b A ws.length c bm)) := ⟨al_new _ _ _ rfl⟩
    have HB6 := Aside0.mk (HB3.out.trans (hal.mono HB3.out.size))
    have HM6 := Aside0.mk (HM3.out.below hal HM3.out.lt)
    clear hal HB3 HM3
    generalize w3.alloc (boxC p b A ws.length c bm) = w6 at HX6 HB6 HM6 ⊢
    generalize w3.heap.size = B at hlt3 HX6 ⊢
    have HX7 : Aside0 (w6.drew.heap[B]? = some (boxC p b A ws.length c bm)) := ⟨HX6.out⟩
    have HB7 := Aside0.mk (below_drew1 HB6.out)
    have HM7 : Aside0 (Memo p b ws w6.drew bm 0) := ⟨HM6.out.block rfl⟩
    clear HX6 HB6 HM6
    have HMX : Aside0 (max (0 : Int) ((R2 : Int) - R - 1) = va) := ⟨by rw [← HVA.out]; split <;> omega⟩
    refine start_ (n := 11) (S := fun w' => w'.cell? ⟨B, 0, none⟩ = some (.string (str p)) ∧ w'.cell? ⟨B, 1, none⟩ = some (.string (str b)) ∧ w'.cell? ⟨B, 2, none⟩ = some (.slice A ws.length c) ∧ w'.cell? ⟨B, 3, none⟩ = some (.map (some bm))) (ds := []) #[false, false, false, false, false, false, false, false, false, false, false] (by kernel_rfl) rfl rfl (boxC_cells HX7.out) (fun hHeld => ?_); refine with_tabW betweenI.tab4 betweenI.bits4 (fun HT_ HW_ => ?_)
    generalize w6.drew = w7 at HB7 HX7 HM7 hHeld ⊢
    refine take_ (i := 0) (N := some 26) (v := ?_) (a' := ?_) #[true, false, false, false, false, false, false, false, false, false, false] rfl rfl (take_ofW HT_.out HW_.out (by kernel_rfl)) (fun _ _ _ h => h) (Or.inl ⟨by rfl, ?_⟩) hHeld ?_ ?_
    rotate_left
    · rintro w' ⟨s0, s1, s2, s3⟩
      go_simp
      with_reducible rfl
    rotate_left
    · simp only [Act.put, List.setIfInBounds_toArray, List.set_cons_zero, List.set_cons_succ, i64_w, i32_w]
      rfl
    refine pure_ (i := 1) (N := some 27) (v := ?_) (a' := ?_) #[true, true, false, false, false, false, false, false, false, false, false] rfl rfl (any_of HT_.out (by kernel_rfl)) (fun _ _ _ h => h) (Or.inl ⟨by rfl, ?_⟩) ?_ ?_
    rotate_left
    · intro w'
      go_simp
      with_reducible rfl
    rotate_left
    · simp only [Act.put, List.setIfInBounds_toArray, List.set_cons_zero, List.set_cons_succ, i64_w, i32_w]
      rfl
    refine take_ (i := 3) (N := some 29) (v := ?_) (a' := ?_) #[true, true, false, true, false, false, false, false, false, false, false] rfl rfl (take_ofW HT_.out HW_.out (by kernel_rfl)) (fun _ _ _ h => h) (Or.inl ⟨by rfl, ?_⟩) hHeld ?_ ?_
    rotate_left
    · rintro w' ⟨s0, s1, s2, s3⟩
      go_simp
      with_reducible rfl
    rotate_left
    · simp only [Act.put, List.setIfInBounds_toArray, List.set_cons_zero, List.set_cons_succ, i64_w, i32_w]
      rfl
    refine pure_ (i := 4) (N := some 30) (v := ?_) (a' := ?_) #[true, true, false, true, true, false, false, false, false, false, false] rfl rfl (any_of HT_.out (by kernel_rfl)) (fun _ _ _ h => h) (Or.inl ⟨by rfl, ?_⟩) ?_ ?_
    rotate_left
    · intro w'
      go_simp
      with_reducible rfl
    rotate_left
    · simp only [Act.put, List.setIfInBounds_toArray, List.set_cons_zero, List.set_cons_succ, i64_w, i32_w]
      rfl
    refine one_ (i := 2) (N := some 28) #[true, true, true, true, true, false, false, false, false, false, false] rfl rfl (one_of HT_.out (by kernel_rfl)) (by decide) (fun K hK => ?_)
    refine goes_ Tryd.func64 (by kernel_rfl) rfl #[counterV p b A ws.length c (.map (some bm)), .string (str t2)] (by rfl) rfl rfl (by (try simp only [List.map_toArray, List.map_cons, List.map_nil]); first | done | rfl) ?_
    refine (HRK2.out w HT.out HM.out bm HBM.out _ (by omega) _ HB7.out HM7.out).mono ?_
    rintro e w8 ⟨rfl, hm, hg⟩
    have HM8 := hm
    have HB8 := Aside0.mk (HB7.out.trans (below_grown hg.out HBM.out HB7.out.size))
    have HX8 := Aside0.mk (grown_box hg.out HX7.out hlt3.out)
    clear hm hg
    refine ⟨_, rfl, ?_⟩
    refine hK.out _ _ (boxC_cells HX8.out) (fun hHeld => ?_)
    clear hK K
    refine norm_ (a' := ?_) ?_ ?_
    rotate_left
    · show Act.put _ (some 28) _ = _
      simp only [Act.put, List.setIfInBounds_toArray, List.set_cons_zero, List.set_cons_succ, i64_w, i32_w]
      rfl
    refine one_ (i := 5) (N := some 31) #[true, true, true, true, true, true, false, false, false, false, false] rfl rfl (one_of HT_.out (by kernel_rfl)) (by decide) (fun K hK => ?_)
    refine goes_ Tryd.func64 (by kernel_rfl) rfl #[counterV p b A ws.length c (.map (some bm)), .string (str t)] (by rfl) rfl rfl (by (try simp only [List.map_toArray, List.map_cons, List.map_nil]); first | done | rfl) ?_
    refine (HRK.out w HT.out HM.out bm HBM.out _ (by omega) _ HB8.out HM8.out).mono ?_
    rintro e w9 ⟨rfl, hm, hg⟩
    have HM9 := hm
    have HB9 := Aside0.mk (HB8.out.trans (below_grown hg.out HBM.out HB8.out.size))
    have HX9 := Aside0.mk (grown_box hg.out HX8.out hlt3.out)
    clear hm hg
    refine ⟨_, rfl, ?_⟩
    refine hK.out _ _ (boxC_cells HX9.out) (fun hHeld => ?_)
    clear hK K
    refine norm_ (a' := ?_) ?_ ?_
    rotate_left
    · show Act.put _ (some 31) _ = _
      simp only [Act.put, List.setIfInBounds_toArray, List.set_cons_zero, List.set_cons_succ, i64_w, i32_w]
      rfl
    refine pure_ (i := 6) (N := some 32) (v := ?_) (a' := ?_) #[true, true, true, true, true, true, true, false, false, false, false] rfl rfl (any_of HT_.out (by kernel_rfl)) (fun _ _ _ h => h) (Or.inl ⟨by rfl, ?_⟩) ?_ ?_
    rotate_left
    · intro w'
      go_simp
      with_reducible rfl
    rotate_left
    · simp only [Act.put, List.setIfInBounds_toArray, List.set_cons_zero, List.set_cons_succ, i64_w, i32_w]
      rfl
    refine pure_ (i := 7) (N := some 33) (v := ?_) (a' := ?_) #[true, true, true, true, true, true, true, true, false, false, false] rfl rfl (any_of HT_.out (by kernel_rfl)) (fun _ _ _ h => h) (Or.inl ⟨by rfl, ?_⟩) ?_ ?_
    rotate_left
    · intro w'
      go_simp
      with_reducible rfl
    rotate_left
    · simp only [Act.put, List.setIfInBounds_toArray, List.set_cons_zero, List.set_cons_succ, i64_w, i32_w]
      rfl
    refine pure_ (i := 8) (N := some 34) (v := ?_) (a' := ?_) #[true, true, true, true, true, true, true, true, true, false, false] rfl rfl (any_of HT_.out (by kernel_rfl)) (fun _ _ _ h => h) (Or.inl ⟨by rfl, ?_⟩) ?_ ?_
    rotate_left
    · intro w'
      go_simp
      with_reducible rfl
    rotate_left
    · simp only [Act.put, List.setIfInBounds_toArray, List.set_cons_zero, List.set_cons_succ, i64_w, i32_w]
      rfl
    refine pure_ (i := 9) (N := some 6) (v := ?_) (a' := ?_) #[true, true, true, true, true, true, true, true, true, true, false] rfl rfl (any_of HT_.out (by kernel_rfl)) (fun _ _ _ h => h) (Or.inl ⟨by rfl, ?_⟩) ?_ ?_
    rotate_left
    · intro w'
      go_simp
      with_reducible rfl
    rotate_left
    · simp only [Act.put, List.setIfInBounds_toArray, List.set_cons_zero, List.set_cons_succ, i64_w, i32_w]
      rfl
    refine pure_ (i := 10) (N := some 7) (v := ?_) (a' := ?_) #[true, true, true, true, true, true, true, true, true, true, true] rfl rfl (any_of HT_.out (by kernel_rfl)) (fun _ _ _ h => h) (Or.inl ⟨by rfl, ?_⟩) ?_ ?_
    rotate_left
    · intro w'
      go_simp
      with_reducible rfl
    rotate_left
    · simp only [Act.put, List.setIfInBounds_toArray, List.set_cons_zero, List.set_cons_succ, i64_w, i32_w]
      rfl
    refine done_ (done_of HT_.out (by kernel_rfl)) ?_
    go_wp2
    refine bodyPost_ret (results_tmp2 rfl _ _ _) rfl ?_
    exact ⟨congrArg (fun z : Int => Ending.returned (.tuple #[.int .i64 z, .bool true])) HMX.out, HB9.out⟩

def lawBetween.T14 : Bool × List (List Nat × List Nat) := (true, [([], []), ([], []), ([1], [1]), ([0, 2, 2], [0, 2]), ([3], [3])])
def lawBetween.B14 : List Nat := [0, 0, 2, 7, 15]
theorem lawBetween.tab14 : rtab .any (opsOf Tryd.f11 14) = lawBetween.T14 := by kernel_rfl
theorem lawBetween.bits14 : waitsOk lawBetween.T14.2 lawBetween.B14 = true := by kernel_rfl

set_option maxRecDepth 100000 in
set_option maxHeartbeats 8000000 in
theorem lawBetween_any {p b : T} {ws : List T} {A : Option Addr} {c : Nat} (hp : p.length ≤ 9223372036854775807) (hb : b.length ≤ 9223372036854775807) (hl : ws.length ≤ 9223372036854775807) (hw : ∀ x ∈ ws, x.length ≤ 9223372036854775807) (t : T) (ht : t.length ≤ 9223372036854775807) (t2 : T) (ht2 : t2.length ≤ 9223372036854775807) (w : World) (hT : Texts w A c ws) (hM : ML w) :
    Calls Tryd.prog 11 #[.agg #[.string (str p), .string (str b), .slice A ws.length c], .string (str t), .string (str t2)] w fun e w' => e = .returned (.bool true) ∧ Below w.heap.size w w' := by
  have hszt := str_size t
  have hszt2 := str_size t2
  have HT := Aside0.mk hT
  have HM := Aside0.mk hM
  have HSZ := Aside0.mk (fun W (h : Texts W A c ws) => szScheme_any hp hb hl hw W h)
  have hB1 : Aside0 (Below w.heap.size w (w.alloc (.cells #[.string (str p), .string (str b), .slice A ws.length c] 24))) := ⟨(Below.refl _ w).alloc (Nat.le_refl _) _⟩
  have hC1 : Aside0 (Below (w.heap.size + 1) (w.alloc (.cells #[.string (str p), .string (str b), .slice A ws.length c] 24)) (w.alloc (.cells #[.string (str p), .string (str b), .slice A ws.length c] 24))) := ⟨Below.refl _ _⟩
  clear hT hM hw
  by_cases ct : t.length ≤ 1048576
  case neg =>
    go_enter Tryd.func11, Tryd.ntmps11
    go_wp2
    go_ret
    exact ⟨rfl, hB1.out⟩
  by_cases ct2 : t2.length ≤ 1048576
  case neg =>
    go_enter Tryd.func11, Tryd.ntmps11
    go_wp2
    go_ret
    exact ⟨rfl, hB1.out⟩
  go_enter Tryd.func11, Tryd.ntmps11
  go_wp2_with (first
    | (go_at_call 14; refine (HSZ.out _ (texts_below HT.out hB1.out)).mono ?_; rintro e w2 ⟨v, rfl, hv, hb2⟩; have HB2 := Aside0.mk (hB1.out.trans (hb2.mono hB1.out.size)); have HC2 := Aside0.mk (hC1.out.trans (hb2.mono (by rw [al_size]; omega))); have HSM := Aside0.mk (fun h : 0 ≤ v => (show Small p b ws from hv h)); obtain ⟨k0, k1, k2⟩ := box24_cells HC2.out; clear hv hb2)
    | (go_at_call 16; refine (toScheme_any (HSM.out (by omega)).2.2.1 _ (texts_below HT.out HB2.out)).mono ?_; rintro e w3 ⟨A3, c3, rfl, hT3, hb3⟩; have HT3 := Aside0.mk hT3; have HB3 := Aside0.mk (HB2.out.trans (hb3.mono HB2.out.size)); have HC3 := Aside0.mk (HC2.out.trans (hb3.mono (Nat.le_trans (by rw [al_size]; omega) HC2.out.size))); clear HB2 HC2 k0 k1 k2 hb3 hT3)
    | (go_at_call 35; refine (specBetween_any (HSM.out (by omega)) t ct t2 ct2 _ HT3.out).mono ?_; rintro e w4 ⟨rfl, hb4⟩; have HB4 := Aside0.mk (HB3.out.trans (hb4.mono HB3.out.size)); have HC4 := Aside0.mk (HC3.out.trans (hb4.mono (Nat.le_trans (by rw [al_size]; omega) HC3.out.size))); obtain ⟨k0, k1, k2⟩ := box24_cells HC4.out; clear HB3 HC3 hb4)
    | (go_at_call 16; refine (toScheme_any (HSM.out (by omega)).2.2.1 _ (texts_below HT.out HB4.out)).mono ?_; rintro e w5 ⟨A5, c5, rfl, hT5, hb5⟩; have HT5 := Aside0.mk hT5; have HB5 := Aside0.mk (HB4.out.trans (hb5.mono HB4.out.size)); have HC5 := Aside0.mk (HC4.out.trans (hb5.mono (Nat.le_trans (by rw [al_size]; omega) HC4.out.size))); have HL5 : Aside0 (w.heap.size + 1 ≤ w5.heap.size) := ⟨Nat.le_trans (by rw [al_size]; omega) HC5.out.size⟩; clear HB4 HC4 k0 k1 k2 hb5 hT5)
    | (go_at_call 36; refine (implBetween_any (HSM.out (by omega)) t ct t2 ct2 _ (texts_below HT5.out ((Below.refl _ w5).alloc (Nat.le_refl _) _)) (ml_below HM.out (HB5.out.alloc HB5.out.size _))).mono ?_; rintro e w7 ⟨rfl, hb7⟩; have HB7 := Aside0.mk ((HB5.out.alloc HB5.out.size _).trans (hb7.mono (HB5.out.alloc HB5.out.size _).size)); have HC7 := Aside0.mk ((HC5.out.alloc HL5.out _).trans (hb7.mono (by rw [al_size]; have := HL5.out; omega))); have HD7 := Aside0.mk (hb7.mono (show w5.heap.size + 1 ≤ _ by rw [al_size]; omega)); have HX7 := Aside0.mk (texts_below (texts_below HT5.out ((Below.refl _ w5).alloc (Nat.le_refl _) _)) hb7); clear hb7))
  rotate_left
  focus
    have HS7 := Aside0.mk (And.intro (box24_cells HC7.out).1 (And.intro (box24_cells HC7.out).2.1 (And.intro (box24_cells HC7.out).2.2 (box_cells HD7.out))))
    have HB8 := Aside0.mk (below_drew1 HB7.out)
    have HX8 : Aside0 (Texts w7.drew A5 c5 ws) := ⟨texts_below HX7.out (below_drew1 (Below.refl _ w7))⟩
    have hsl := (HSM.out (by omega)).2.2.1
    have HTO := Aside0.mk (fun W (h : Texts W A c ws) => toScheme_any (p := p) (b := b) hsl W h)
    refine start_ (n := 5) (S := fun w' => w'.cell? ⟨w.heap.size, 0, none⟩ = some (.string (str p)) ∧ w'.cell? ⟨w.heap.size, 1, none⟩ = some (.string (str b)) ∧ w'.cell? ⟨w.heap.size, 2, none⟩ = some (.slice A ws.length c) ∧ w'.cell? ⟨w5.heap.size, 0, none⟩ = some (.string (str p)) ∧ w'.cell? ⟨w5.heap.size, 1, none⟩ = some (.string (str b)) ∧ w'.cell? ⟨w5.heap.size, 2, none⟩ = some (.slice A5 ws.length c5)) (ds := []) #[false, false, false, false, false] (by kernel_rfl) rfl rfl HS7.out (fun hHeld => ?_); refine with_tabW lawBetween.tab14 lawBetween.bits14 (fun HT_ HW_ => ?_)
    generalize w7.drew = w8 at HB8 HX8 hHeld ⊢
    refine take_ (i := 0) (N := some 49) (v := ?_) (a' := ?_) #[true, false, false, false, false] rfl rfl (take_ofW HT_.out HW_.out (by kernel_rfl)) (fun _ _ _ h => h) (Or.inl ⟨by rfl, ?_⟩) hHeld ?_ ?_
    rotate_left
    · rintro w' ⟨s0, s1, s2, s3, s4, s5⟩
      go_simp
      with_reducible rfl
    rotate_left
    · simp only [Act.put, List.setIfInBounds_toArray, List.set_cons_zero, List.set_cons_succ, i64_w, i32_w]
      rfl
    refine take_ (i := 1) (N := some 50) (v := ?_) (a' := ?_) #[true, true, false, false, false] rfl rfl (take_ofW HT_.out HW_.out (by kernel_rfl)) (fun _ _ _ h => h) (Or.inl ⟨by rfl, ?_⟩) hHeld ?_ ?_
    rotate_left
    · rintro w' ⟨s0, s1, s2, s3, s4, s5⟩
      go_simp
      with_reducible rfl
    rotate_left
    · simp only [Act.put, List.setIfInBounds_toArray, List.set_cons_zero, List.set_cons_succ, i64_w, i32_w]
      rfl
    refine one_ (i := 2) (N := some 51) #[true, true, true, false, false] rfl rfl (one_of HT_.out (by kernel_rfl)) (by decide) (fun K hK => ?_)
    refine goes_ Tryd.func16 (by kernel_rfl) rfl #[.agg #[.string (str p), .string (str b), .slice A ws.length c]] (by rfl) rfl rfl (by (try simp only [List.map_toArray, List.map_cons, List.map_nil]); first | done | rfl) ?_
    refine (HTO.out _ (texts_below HT.out HB8.out)).mono ?_
    rintro e w9 ⟨A9, c9, rfl, hT9, hb9⟩
    have HT9 := Aside0.mk hT9
    have HB9 := Aside0.mk (HB8.out.trans (hb9.mono HB8.out.size))
    have HX9 := Aside0.mk (texts_below HX8.out hb9)
    clear hT9
    refine ⟨_, rfl, ?_⟩
    refine hK.out _ _ ⟨(hb9.cell (World.block_lt_of_cell? _ _ hHeld.1)).trans hHeld.1, (hb9.cell (World.block_lt_of_cell? _ _ hHeld.2.1)).trans hHeld.2.1, (hb9.cell (World.block_lt_of_cell? _ _ hHeld.2.2.1)).trans hHeld.2.2.1, (hb9.cell (World.block_lt_of_cell? _ _ hHeld.2.2.2.1)).trans hHeld.2.2.2.1, (hb9.cell (World.block_lt_of_cell? _ _ hHeld.2.2.2.2.1)).trans hHeld.2.2.2.2.1, (hb9.cell (World.block_lt_of_cell? _ _ hHeld.2.2.2.2.2)).trans hHeld.2.2.2.2.2⟩ (fun hHeld => ?_)
    clear hK K
    refine norm_ (a' := ?_) ?_ ?_
    rotate_left
    · show Act.put _ (some 51) _ = _
      simp only [Act.put, List.setIfInBounds_toArray, List.set_cons_zero, List.set_cons_succ, i64_w, i32_w]
      rfl
    refine one_ (i := 3) (N := some 52) #[true, true, true, true, false] rfl rfl (one_of HT_.out (by kernel_rfl)) (by decide) (fun K hK => ?_)
    refine goes_ Tryd.func18 (by kernel_rfl) rfl #[.agg #[.string (str p), .string (str b), .slice A5 ws.length c5], .agg #[.string (str p), .string (str b), .slice A9 ws.length c9]] (by rfl) rfl rfl (by (try simp only [List.map_toArray, List.map_cons, List.map_nil]); first | done | rfl) ?_
    refine (eqScheme_any (by omega) _ HX9.out HT9.out).mono ?_
    rintro e w10 ⟨rfl, hb10⟩
    have HB10 := Aside0.mk (HB9.out.trans (hb10.mono HB9.out.size))
    refine ⟨_, rfl, ?_⟩
    refine hK.out _ _ ⟨(hb10.cell (World.block_lt_of_cell? _ _ hHeld.1)).trans hHeld.1, (hb10.cell (World.block_lt_of_cell? _ _ hHeld.2.1)).trans hHeld.2.1, (hb10.cell (World.block_lt_of_cell? _ _ hHeld.2.2.1)).trans hHeld.2.2.1, (hb10.cell (World.block_lt_of_cell? _ _ hHeld.2.2.2.1)).trans hHeld.2.2.2.1, (hb10.cell (World.block_lt_of_cell? _ _ hHeld.2.2.2.2.1)).trans hHeld.2.2.2.2.1, (hb10.cell (World.block_lt_of_cell? _ _ hHeld.2.2.2.2.2)).trans hHeld.2.2.2.2.2⟩ (fun hHeld => ?_)
    clear hK K
    refine norm_ (a' := ?_) ?_ ?_
    rotate_left
    · show Act.put _ (some 52) _ = _
      simp only [Act.put, List.setIfInBounds_toArray, List.set_cons_zero, List.set_cons_succ, i64_w, i32_w]
      rfl
    refine pure_ (i := 4) (N := some 53) (v := ?_) (a' := ?_) #[true, true, true, true, true] rfl rfl (any_of HT_.out (by kernel_rfl)) (fun _ _ _ h => h) (Or.inl ⟨by rfl, ?_⟩) ?_ ?_
    rotate_left
    · intro w'
      go_simp
      with_reducible rfl
    rotate_left
    · simp only [Act.put, List.setIfInBounds_toArray, List.set_cons_zero, List.set_cons_succ, i64_w, i32_w]
      rfl
    refine done_ (done_of HT_.out (by kernel_rfl)) ?_
    go_wp2
    go_ret
    exact ⟨rfl, HB10.out⟩
  go_ret
  exact ⟨rfl, HB2.out⟩
end Go.Proofs.YtoieadofldkccaaDoor.Plates
