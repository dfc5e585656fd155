/-
  Plates: both sides of CountSpoiled; the law.
-/
import Derived.Test.YtoieadofldkccaaDoorHPTotals
import Derived.Test.YtoieadofldkccaaDoorHPLawBegin
namespace Go.Proofs.YtoieadofldkccaaDoor.Plates
open Go.RowKit Go.Proofs.YtoieadofldkccaaDoorW.PrintWords Go.Proofs.YtoieadofldkccaaDoorW.PrintLast Go.Proofs.YtoieadofldkccaaDoorW.PrintMore Go.Proofs.YtoieadofldkccaaDoor.PFnExactCountBeginning
open PFake (ML ml_below)
set_option linter.unusedVariables false
set_option linter.unusedSimpArgs false

/-- the answer -/
noncomputable def valS (p b : T) (ws : List T) : Int := if goodB p b ws = true then (fromN p b [] [] : Nat) - (fromN p b ws [] : Nat) else 0

def spoiledS.T3 : Bool × List (List Nat × List Nat) := (true, [([], []), ([0], [0]), ([], []), ([2], [2]), ([1, 3], [1, 3]), ([4], [4]), ([], []), ([6, 5], [6]), ([5, 7], [5, 7]), ([8, 7, 0, 1, 2, 3, 4, 5, 6, 7, 8], [8]), ([9, 0, 1, 2, 3, 4, 5, 6, 7, 8, 9], [])])
def spoiledS.B3 : List Nat := [0, 1, 0, 4, 15, 31, 0, 127, 255, 511, 1023]
theorem spoiledS.tab3 : rtab .any (opsOf Tryd.f25 3) = spoiledS.T3 := by kernel_rfl
theorem spoiledS.bits3 : waitsOk spoiledS.T3.2 spoiledS.B3 = true := by kernel_rfl
def spoiledI.T3 : Bool × List (List Nat × List Nat) := (true, [([], []), ([0], [0]), ([], []), ([2], [2]), ([1, 3], [1, 3]), ([4], [4]), ([5, 5], [5]), ([], []), ([7, 6], [7]), ([8, 8], [8]), ([6, 9], [6, 9]), ([10, 9, 0, 1, 2, 3, 4, 5, 6, 7, 8, 9, 10], [10]), ([11, 0, 1, 2, 3, 4, 5, 6, 7, 8, 9, 10, 11], [])])
def spoiledI.B3 : List Nat := [0, 1, 0, 4, 15, 31, 63, 0, 255, 511, 1023, 2047, 4095]
theorem spoiledI.tab3 : rtab .any (opsOf Tryd.f26 3) = spoiledI.T3 := by kernel_rfl
theorem spoiledI.bits3 : waitsOk spoiledI.T3.2 spoiledI.B3 = true := by kernel_rfl

set_option maxRecDepth 100000 in
set_option maxHeartbeats 4000000 in
theorem specSpoiled_any {p b : T} {ws : List T} {A : Option Addr} {c : Nat} (hs : Small p b ws) (w : World) (hT : Texts w A c ws) :
    Calls Tryd.prog 25 #[.agg #[.string (str p), .string (str b), .slice A ws.length c]] w fun e w' => e = .returned (.tuple #[.int .i64 (valS p b ws), .bool (goodB p b ws)]) ∧ Below w.heap.size w w' := by
  obtain ⟨s1, s2, s3, s4⟩ := hs
  have HT := Aside0.mk hT
  have HPG := Aside0.mk (fun W (h : Texts W A c ws) => plGood_any (p := p) (b := b) (by omega) (fun x hx => by have := s4 x hx; omega) W h)
  have hB1 : Aside0 (Below w.heap.size w (w.alloc (.cells #[.string (str p), .string (str b), .slice A ws.length c] 28))) := ⟨(Below.refl _ w).alloc (Nat.le_refl _) _⟩
  have HX1 : Aside0 ((w.alloc (.cells #[.string (str p), .string (str b), .slice A ws.length c] 28)).heap[w.heap.size]? = some (boxS p b A ws.length c)) := ⟨al_new _ _ _ rfl⟩
  clear s4 hT
  cases hg : goodB p b ws with
  | false =>
    have HV : Aside0 (valS p b ws = 0) := ⟨by unfold valS; rw [hg]; rfl⟩
    rw [hg] at HPG
    rw [HV.out]
    clear hg
    go_enter Tryd.func25, Tryd.ntmps25
    go_wp2_with (go_at_call 47; refine (HPG.out _ (texts_below HT.out hB1.out)).mono ?_; rintro e w1 ⟨rfl, hb1⟩; have HB1 := Aside0.mk (hB1.out.trans (hb1.mono hB1.out.size)); clear hb1)
    refine bodyPost_ret (results_tmp2 rfl _ _ _) rfl ?_
    exact ⟨rfl, HB1.out⟩
  | true =>
    have G := good_of hg
    have p8 := G.p8
    have HF1 : Aside0 (∀ W : World, Calls Tryd.prog 57 #[.agg #[.string (str p), .string (str b), .slice none 0 0], .string ⟨#[]⟩] W fun e w' => e = .returned (.int .i64 (fromN p b [] [] : Nat)) ∧ Below W.heap.size W w') := ⟨fun W => fromAll_spec (good_bare G) W (texts_nil W)⟩
    have HF2 := Aside0.mk (fun W (h : Texts W A c ws) => fromAll_spec G W h)
    have b1 := fromN_le b [] [] p8
    have b2 := fromN_le b ws [] p8
    have HV : Aside0 (valS p b ws = (fromN p b [] [] : Nat) - (fromN p b ws [] : Nat)) := ⟨by unfold valS; rw [if_pos hg]⟩
    rw [hg] at HPG
    rw [HV.out]
    clear hg G HV
    generalize fromN p b [] [] = X at HF1 b1 ⊢
    generalize fromN p b ws [] = Y at HF2 b2 ⊢
    have eXY : wrap64 ((X : Int) - Y) = (X : Int) - Y := wi (by omega) (by omega)
    go_enter Tryd.func25, Tryd.ntmps25
    go_wp2_with (go_at_call 47; refine (HPG.out _ (texts_below HT.out hB1.out)).mono ?_; rintro e w1 ⟨rfl, hb1⟩; have HB1 := Aside0.mk (hB1.out.trans (hb1.mono hB1.out.size)); have HXA := Aside0.mk (below_box hb1 HX1.out); clear hb1)
    have HB2 := Aside0.mk (below_drew1 HB1.out)
    have HXB : Aside0 (w1.drew.heap[w.heap.size]? = some (boxS p b A ws.length c)) := ⟨HXA.out⟩
    refine start_ (n := 11) (S := fun w' => w'.cell? ⟨w.heap.size, 0, none⟩ = some (.string (str p)) ∧ w'.cell? ⟨w.heap.size, 1, none⟩ = some (.string (str b)) ∧ w'.cell? ⟨w.heap.size, 2, none⟩ = some (.slice A ws.length c)) (ds := []) #[false, false, false, false, false, false, false, false, false, false, false] (by kernel_rfl) rfl rfl (box3_cells HXB.out) (fun hHeld => ?_); refine with_tabW spoiledS.tab3 spoiledS.bits3 (fun HT_ HW_ => ?_)
    generalize w1.drew = w2 at HB2 HXB hHeld ⊢
    refine pure_ (i := 0) (N := some 7) (v := ?_) (a' := ?_) #[true, false, false, false, false, false, false, false, false, false, false] rfl rfl (any_of HT_.out (by kernel_rfl)) (fun _ _ _ h => h) (Or.inl ⟨by rfl, ?_⟩) ?_ ?_
    rotate_left
    · intro w'
      go_simp
      with_reducible rfl
    rotate_left
    · simp only [Act.put, List.setIfInBounds_toArray, List.set_cons_zero, List.set_cons_succ, i64_w, i32_w]
      rfl
    refine take_ (i := 1) (N := some 8) (v := ?_) (a' := ?_) #[true, true, false, false, false, false, false, false, false, false, false] rfl rfl (take_ofW HT_.out HW_.out (by kernel_rfl)) (fun _ _ _ h => h) (Or.inl ⟨by rfl, ?_⟩) hHeld ?_ ?_
    rotate_left
    · rintro w' ⟨s0, s1, s2⟩
      go_simp
      with_reducible rfl
    rotate_left
    · simp only [Act.put, List.setIfInBounds_toArray, List.set_cons_zero, List.set_cons_succ, i64_w, i32_w]
      rfl
    refine pure_ (i := 2) (N := some 9) (v := ?_) (a' := ?_) #[true, true, true, false, false, false, false, false, false, false, false] rfl rfl (any_of HT_.out (by kernel_rfl)) (fun _ _ _ h => h) (Or.inl ⟨by rfl, ?_⟩) ?_ ?_
    rotate_left
    · intro w'
      go_simp
      with_reducible rfl
    rotate_left
    · simp only [Act.put, List.setIfInBounds_toArray, List.set_cons_zero, List.set_cons_succ, i64_w, i32_w]
      rfl
    refine take_ (i := 3) (N := some 10) (v := ?_) (a' := ?_) #[true, true, true, true, false, false, false, false, false, false, false] rfl rfl (take_ofW HT_.out HW_.out (by kernel_rfl)) (fun _ _ _ h => h) (Or.inl ⟨by rfl, ?_⟩) hHeld ?_ ?_
    rotate_left
    · rintro w' ⟨s0, s1, s2⟩
      go_simp
      with_reducible rfl
    rotate_left
    · simp only [Act.put, List.setIfInBounds_toArray, List.set_cons_zero, List.set_cons_succ, i64_w, i32_w]
      rfl
    refine pure_ (i := 4) (N := some 11) (v := ?_) (a' := ?_) #[true, true, true, true, true, false, false, false, false, false, false] rfl rfl (any_of HT_.out (by kernel_rfl)) (fun _ _ _ h => h) (Or.inl ⟨by rfl, ?_⟩) ?_ ?_
    rotate_left
    · intro w'
      go_simp
      with_reducible rfl
    rotate_left
    · simp only [Act.put, List.setIfInBounds_toArray, List.set_cons_zero, List.set_cons_succ, i64_w, i32_w]
      rfl
    refine take_ (i := 6) (N := some 13) (v := ?_) (a' := ?_) #[true, true, true, true, true, false, true, false, false, false, false] rfl rfl (take_ofW HT_.out HW_.out (by kernel_rfl)) (fun _ _ _ h => h) (Or.inl ⟨by rfl, ?_⟩) hHeld ?_ ?_
    rotate_left
    · rintro w' ⟨s0, s1, s2⟩
      go_simp
      with_reducible rfl
    rotate_left
    · simp only [Act.put, List.setIfInBounds_toArray, List.set_cons_zero, List.set_cons_succ, i64_w, i32_w]
      rfl
    refine one_ (i := 5) (N := some 12) #[true, true, true, true, true, true, true, false, false, false, false] rfl rfl (one_of HT_.out (by kernel_rfl)) (by decide) (fun K hK => ?_)
    refine goes_ Tryd.func57 (by kernel_rfl) rfl #[.agg #[.string (str p), .string (str b), .slice none 0 0], .string ⟨#[]⟩] (by rfl) rfl rfl (by (try simp only [List.map_toArray, List.map_cons, List.map_nil]); first | done | rfl) ?_
    refine (HF1.out _).mono ?_
    rintro e w4 ⟨rfl, hb4⟩
    have HB4 := Aside0.mk (HB2.out.trans (hb4.mono HB2.out.size))
    have HX4 := Aside0.mk (below_box hb4 HXB.out)
    clear hb4
    refine ⟨_, rfl, ?_⟩
    refine hK.out _ _ (box3_cells HX4.out) (fun hHeld => ?_)
    clear hK K
    refine norm_ (a' := ?_) ?_ ?_
    rotate_left
    · show Act.put _ (some 12) _ = _
      simp only [Act.put, List.setIfInBounds_toArray, List.set_cons_zero, List.set_cons_succ, i64_w, i32_w]
      rfl
    refine one_ (i := 7) (N := some 14) #[true, true, true, true, true, true, true, true, false, false, false] rfl rfl (one_of HT_.out (by kernel_rfl)) (by decide) (fun K hK => ?_)
    refine goes_ Tryd.func57 (by kernel_rfl) rfl #[.agg #[.string (str p), .string (str b), .slice A ws.length c], .string ⟨#[]⟩] (by rfl) rfl rfl (by (try simp only [List.map_toArray, List.map_cons, List.map_nil]); first | done | rfl) ?_
    refine (HF2.out _ (texts_below HT.out HB4.out)).mono ?_
    rintro e w6 ⟨rfl, hb6⟩
    have HB6 := Aside0.mk (HB4.out.trans (hb6.mono HB4.out.size))
    have HX6 := Aside0.mk (below_box hb6 HX4.out)
    clear hb6
    refine ⟨_, rfl, ?_⟩
    refine hK.out _ _ (box3_cells HX6.out) (fun hHeld => ?_)
    clear hK K
    refine norm_ (a' := ?_) ?_ ?_
    rotate_left
    · show Act.put _ (some 14) _ = _
      simp only [Act.put, List.setIfInBounds_toArray, List.set_cons_zero, List.set_cons_succ, i64_w, i32_w]
      rfl
    refine pure_ (i := 8) (N := some 15) (v := ?_) (a' := ?_) #[true, true, true, true, true, true, true, true, true, false, false] rfl rfl (any_of HT_.out (by kernel_rfl)) (fun _ _ _ h => h) (Or.inl ⟨by rfl, ?_⟩) ?_ ?_
    rotate_left
    · intro w'
      go_simp
      with_reducible rfl
    rotate_left
    · simp only [Act.put, List.setIfInBounds_toArray, List.set_cons_zero, List.set_cons_succ, i64_w, i32_w]
      rfl
    refine pure_ (i := 9) (N := some 2) (v := ?_) (a' := ?_) #[true, true, true, true, true, true, true, true, true, true, false] rfl rfl (any_of HT_.out (by kernel_rfl)) (fun _ _ _ h => h) (Or.inl ⟨by rfl, ?_⟩) ?_ ?_
    rotate_left
    · intro w'
      go_simp
      with_reducible rfl
    rotate_left
    · simp only [Act.put, List.setIfInBounds_toArray, List.set_cons_zero, List.set_cons_succ, i64_w, i32_w]
      rfl
    refine pure_ (i := 10) (N := some 3) (v := ?_) (a' := ?_) #[true, true, true, true, true, true, true, true, true, true, true] rfl rfl (any_of HT_.out (by kernel_rfl)) (fun _ _ _ h => h) (Or.inl ⟨by rfl, ?_⟩) ?_ ?_
    rotate_left
    · intro w'
      go_simp
      with_reducible rfl
    rotate_left
    · simp only [Act.put, List.setIfInBounds_toArray, List.set_cons_zero, List.set_cons_succ, i64_w, i32_w]
      rfl
    refine done_ (done_of HT_.out (by kernel_rfl)) ?_
    go_wp2
    refine bodyPost_ret (results_tmp2 rfl _ _ _) rfl ?_
    exact ⟨rfl, HB6.out⟩

set_option maxRecDepth 100000 in
set_option maxHeartbeats 4000000 in
theorem implSpoiled_any {p b : T} {ws : List T} {A : Option Addr} {c : Nat} (hs : Small p b ws) (w : World) (hT : Texts w A c ws) (hM : ML w) :
    Calls Tryd.prog 26 #[.agg #[.string (str p), .string (str b), .slice A ws.length c]] w fun e w' => e = .returned (.tuple #[.int .i64 (valS p b ws), .bool (goodB p b ws)]) ∧ Below w.heap.size w w' := by
  obtain ⟨s1, s2, s3, s4⟩ := hs
  have HT := Aside0.mk hT
  have HM := Aside0.mk hM
  have HPG := Aside0.mk (fun W (h : Texts W A c ws) => isScheme_any (p := p) (b := b) (by omega) (by omega) (by omega) (fun x hx => by have := s4 x hx; omega) W h)
  have hB1 : Aside0 (Below w.heap.size w (w.alloc (.cells #[.string (str p), .string (str b), .slice A ws.length c] 28))) := ⟨(Below.refl _ w).alloc (Nat.le_refl _) _⟩
  have HX1 : Aside0 ((w.alloc (.cells #[.string (str p), .string (str b), .slice A ws.length c] 28)).heap[w.heap.size]? = some (boxS p b A ws.length c)) := ⟨al_new _ _ _ rfl⟩
  clear s4 hT hM
  cases hg : goodB p b ws with
  | false =>
    have HV : Aside0 (valS p b ws = 0) := ⟨by unfold valS; rw [hg]; rfl⟩
    rw [hg] at HPG
    rw [HV.out]
    clear hg
    go_enter Tryd.func26, Tryd.ntmps26
    go_wp2_with (go_at_call 51; refine (HPG.out _ (texts_below HT.out hB1.out)).mono ?_; rintro e w1 ⟨rfl, hb1⟩; have HB1 := Aside0.mk (hB1.out.trans (hb1.mono hB1.out.size)); clear hb1)
    refine bodyPost_ret (results_tmp2 rfl _ _ _) rfl ?_
    exact ⟨rfl, HB1.out⟩
  | true =>
    have G := good_of hg
    have p8 := G.p8
    have HC1 : Aside0 (∀ W : World, Calls Tryd.prog 58 #[.agg #[.string (str p), .string (str b), .slice none 0 0]] W fun e w' => ∃ bm, e = .returned (counterV p b none 0 0 (.map (some bm))) ∧ Aside0 (Memo p b [] w' bm 0) ∧ Aside0 (W.heap.size ≤ bm) ∧ Aside0 (Below W.heap.size W w')) := ⟨fun W => counterOf_any (ws := []) (A := none) (c := 0) W⟩
    have HC2 := Aside0.mk (fun W => counterOf_any (p := p) (b := b) (ws := ws) (A := A) (c := c) W)
    have HF1 : Aside0 (∀ (bm : Nat) (hbm : w.heap.size ≤ bm) (W : World) (hB : Below w.heap.size w W) (hM : Memo p b [] W bm 0), Calls Tryd.prog 59 #[counterV p b none 0 0 (.map (some bm)), .int .i64 0, .string ⟨#[]⟩] W (BegPost p b [] bm 0 (fromN p b [] []) W)) := ⟨fun bm hbm W hB hM => fromAll_any (good_bare G) w (texts_nil w) HM.out bm hbm 0 (by omega) W hB hM⟩
    have HF2 := Aside0.mk (fun (bm : Nat) (hbm : w.heap.size ≤ bm) (W : World) (hB : Below w.heap.size w W) (hM : Memo p b ws W bm 0) => fromAll_any (A := A) (c := c) G w HT.out HM.out bm hbm 0 (by omega) W hB hM)
    have b1 := fromN_le b [] [] p8
    have b2 := fromN_le b ws [] p8
    have HV : Aside0 (valS p b ws = (fromN p b [] [] : Nat) - (fromN p b ws [] : Nat)) := ⟨by unfold valS; rw [if_pos hg]⟩
    rw [hg] at HPG
    rw [HV.out]
    clear hg G HV
    generalize fromN p b [] [] = X at HF1 b1 ⊢
    generalize fromN p b ws [] = Y at HF2 b2 ⊢
    have eXY : wrap64 ((X : Int) - Y) = (X : Int) - Y := wi (by omega) (by omega)
    go_enter Tryd.func26, Tryd.ntmps26
    go_wp2_with (go_at_call 51; refine (HPG.out _ (texts_below HT.out hB1.out)).mono ?_; rintro e w1 ⟨rfl, hb1⟩; have HB1 := Aside0.mk (hB1.out.trans (hb1.mono hB1.out.size)); have HXA := Aside0.mk (below_box hb1 HX1.out); clear hb1)
    have HB2 := Aside0.mk (below_drew1 HB1.out)
    have HXB : Aside0 (w1.drew.heap[w.heap.size]? = some (boxS p b A ws.length c)) := ⟨HXA.out⟩
    refine start_ (n := 13) (S := fun w' => w'.cell? ⟨w.heap.size, 0, none⟩ = some (.string (str p)) ∧ w'.cell? ⟨w.heap.size, 1, none⟩ = some (.string (str b)) ∧ w'.cell? ⟨w.heap.size, 2, none⟩ = some (.slice A ws.length c)) (ds := []) #[false, false, false, false, false, false, false, false, false, false, false, false, false] (by kernel_rfl) rfl rfl (box3_cells HXB.out) (fun hHeld => ?_); refine with_tabW spoiledI.tab3 spoiledI.bits3 (fun HT_ HW_ => ?_)
    generalize w1.drew = w2 at HB2 HXB hHeld ⊢
    refine pure_ (i := 0) (N := some 7) (v := ?_) (a' := ?_) #[true, false, false, false, false, false, false, false, false, false, false, false, false] rfl rfl (any_of HT_.out (by kernel_rfl)) (fun _ _ _ h => h) (Or.inl ⟨by rfl, ?_⟩) ?_ ?_
    rotate_left
    · intro w'
      go_simp
      with_reducible rfl
    rotate_left
    · simp only [Act.put, List.setIfInBounds_toArray, List.set_cons_zero, List.set_cons_succ, i64_w, i32_w]
      rfl
    refine take_ (i := 1) (N := some 8) (v := ?_) (a' := ?_) #[true, true, false, false, false, false, false, false, false, false, false, false, false] rfl rfl (take_ofW HT_.out HW_.out (by kernel_rfl)) (fun _ _ _ h => h) (Or.inl ⟨by rfl, ?_⟩) hHeld ?_ ?_
    rotate_left
    · rintro w' ⟨s0, s1, s2⟩
      go_simp
      with_reducible rfl
    rotate_left
    · simp only [Act.put, List.setIfInBounds_toArray, List.set_cons_zero, List.set_cons_succ, i64_w, i32_w]
      rfl
    refine pure_ (i := 2) (N := some 9) (v := ?_) (a' := ?_) #[true, true, true, false, false, false, false, false, false, false, false, false, false] rfl rfl (any_of HT_.out (by kernel_rfl)) (fun _ _ _ h => h) (Or.inl ⟨by rfl, ?_⟩) ?_ ?_
    rotate_left
    · intro w'
      go_simp
      with_reducible rfl
    rotate_left
    · simp only [Act.put, List.setIfInBounds_toArray, List.set_cons_zero, List.set_cons_succ, i64_w, i32_w]
      rfl
    refine take_ (i := 3) (N := some 10) (v := ?_) (a' := ?_) #[true, true, true, true, false, false, false, false, false, false, false, false, false] rfl rfl (take_ofW HT_.out HW_.out (by kernel_rfl)) (fun _ _ _ h => h) (Or.inl ⟨by rfl, ?_⟩) hHeld ?_ ?_
    rotate_left
    · rintro w' ⟨s0, s1, s2⟩
      go_simp
      with_reducible rfl
    rotate_left
    · simp only [Act.put, List.setIfInBounds_toArray, List.set_cons_zero, List.set_cons_succ, i64_w, i32_w]
      rfl
    refine pure_ (i := 4) (N := some 11) (v := ?_) (a' := ?_) #[true, true, true, true, true, false, false, false, false, false, false, false, false] rfl rfl (any_of HT_.out (by kernel_rfl)) (fun _ _ _ h => h) (Or.inl ⟨by rfl, ?_⟩) ?_ ?_
    rotate_left
    · intro w'
      go_simp
      with_reducible rfl
    rotate_left
    · simp only [Act.put, List.setIfInBounds_toArray, List.set_cons_zero, List.set_cons_succ, i64_w, i32_w]
      rfl
    refine take_ (i := 7) (N := some 14) (v := ?_) (a' := ?_) #[true, true, true, true, true, false, false, true, false, false, false, false, false] rfl rfl (take_ofW HT_.out HW_.out (by kernel_rfl)) (fun _ _ _ h => h) (Or.inl ⟨by rfl, ?_⟩) hHeld ?_ ?_
    rotate_left
    · rintro w' ⟨s0, s1, s2⟩
      go_simp
      with_reducible rfl
    rotate_left
    · simp only [Act.put, List.setIfInBounds_toArray, List.set_cons_zero, List.set_cons_succ, i64_w, i32_w]
      rfl
    refine one_ (i := 5) (N := some 12) #[true, true, true, true, true, true, false, true, false, false, false, false, false] rfl rfl (one_of HT_.out (by kernel_rfl)) (by decide) (fun K hK => ?_)
    refine goes_ Tryd.func58 (by kernel_rfl) rfl #[.agg #[.string (str p), .string (str b), .slice none 0 0]] (by rfl) rfl rfl (by (try simp only [List.map_toArray, List.map_cons, List.map_nil]); first | done | rfl) ?_
    refine (HC1.out _).mono ?_
    rintro e w3 ⟨bm, rfl, hm3, hbm3, hb3⟩
    have HB3 := Aside0.mk (HB2.out.trans (hb3.out.mono HB2.out.size))
    have HX3 := Aside0.mk (below_box hb3.out HXB.out)
    have HM3 := hm3
    have HBM := Aside0.mk (Nat.le_trans HB2.out.size hbm3.out)
    have HBX : Aside0 (w.heap.size < bm) := ⟨Nat.lt_of_lt_of_le (Array.getElem?_eq_some_iff.1 HXB.out).1 hbm3.out⟩
    clear hb3 hm3 hbm3
    refine ⟨_, rfl, ?_⟩
    refine hK.out _ _ (box3_cells HX3.out) (fun hHeld => ?_)
    clear hK K
    refine norm_ (a' := ?_) ?_ ?_
    rotate_left
    · show Act.put _ (some 12) _ = _
      simp only [Act.put, List.setIfInBounds_toArray, List.set_cons_zero, List.set_cons_succ, i64_w, i32_w]
      rfl
    refine one_ (i := 6) (N := some 13) #[true, true, true, true, true, true, true, true, false, false, false, false, false] rfl rfl (one_of HT_.out (by kernel_rfl)) (by decide) (fun K hK => ?_)
    refine goes_ Tryd.func59 (by kernel_rfl) rfl #[counterV p b none 0 0 (.map (some bm)), .int .i64 0, .string ⟨#[]⟩] (by rfl) rfl rfl (by (try simp only [List.map_toArray, List.map_cons, List.map_nil]); first | done | rfl) ?_
    refine (HF1.out bm HBM.out _ HB3.out HM3.out).mono ?_
    rintro e w4 ⟨rfl, _, hg4⟩
    have HB4 := Aside0.mk (HB3.out.trans (below_grown hg4.out HBM.out HB3.out.size))
    have HX4 := Aside0.mk ((hg4.out.block w.heap.size (Array.getElem?_eq_some_iff.1 HX3.out).1 (fun e => by have := Option.some.inj e; have := HBX.out; omega)).trans HX3.out)
    clear hg4
    refine ⟨_, rfl, ?_⟩
    refine hK.out _ _ (box3_cells HX4.out) (fun hHeld => ?_)
    clear hK K
    refine norm_ (a' := ?_) ?_ ?_
    rotate_left
    · show Act.put _ (some 13) _ = _
      simp only [Act.put, List.setIfInBounds_toArray, List.set_cons_zero, List.set_cons_succ, i64_w, i32_w]
      rfl
    refine one_ (i := 8) (N := some 15) #[true, true, true, true, true, true, true, true, true, false, false, false, false] rfl rfl (one_of HT_.out (by kernel_rfl)) (by decide) (fun K hK => ?_)
    refine goes_ Tryd.func58 (by kernel_rfl) rfl #[.agg #[.string (str p), .string (str b), .slice A ws.length c]] (by rfl) rfl rfl (by (try simp only [List.map_toArray, List.map_cons, List.map_nil]); first | done | rfl) ?_
    refine (HC2.out _).mono ?_
    rintro e w5 ⟨bm2, rfl, hm5, hbm5, hb5⟩
    have HB5 := Aside0.mk (HB4.out.trans (hb5.out.mono HB4.out.size))
    have HX5 := Aside0.mk (below_box hb5.out HX4.out)
    have HM5 := hm5
    have HBM5 := Aside0.mk (Nat.le_trans HB4.out.size hbm5.out)
    have HBX5 : Aside0 (w.heap.size < bm2) := ⟨Nat.lt_of_lt_of_le (Array.getElem?_eq_some_iff.1 HX4.out).1 hbm5.out⟩
    clear hb5 hm5 hbm5
    refine ⟨_, rfl, ?_⟩
    refine hK.out _ _ (box3_cells HX5.out) (fun hHeld => ?_)
    clear hK K
    refine norm_ (a' := ?_) ?_ ?_
    rotate_left
    · show Act.put _ (some 15) _ = _
      simp only [Act.put, List.setIfInBounds_toArray, List.set_cons_zero, List.set_cons_succ, i64_w, i32_w]
      rfl
    refine one_ (i := 9) (N := some 16) #[true, true, true, true, true, true, true, true, true, true, false, false, false] rfl rfl (one_of HT_.out (by kernel_rfl)) (by decide) (fun K hK => ?_)
    refine goes_ Tryd.func59 (by kernel_rfl) rfl #[counterV p b A ws.length c (.map (some bm2)), .int .i64 0, .string ⟨#[]⟩] (by rfl) rfl rfl (by (try simp only [List.map_toArray, List.map_cons, List.map_nil]); first | done | rfl) ?_
    refine (HF2.out bm2 HBM5.out _ HB5.out HM5.out).mono ?_
    rintro e w6 ⟨rfl, _, hg6⟩
    have HB6 := Aside0.mk (HB5.out.trans (below_grown hg6.out HBM5.out HB5.out.size))
    have HX6 := Aside0.mk ((hg6.out.block w.heap.size (Array.getElem?_eq_some_iff.1 HX5.out).1 (fun e => by have := Option.some.inj e; have := HBX5.out; omega)).trans HX5.out)
    clear hg6
    refine ⟨_, rfl, ?_⟩
    refine hK.out _ _ (box3_cells HX6.out) (fun hHeld => ?_)
    clear hK K
    refine norm_ (a' := ?_) ?_ ?_
    rotate_left
    · show Act.put _ (some 16) _ = _
      simp only [Act.put, List.setIfInBounds_toArray, List.set_cons_zero, List.set_cons_succ, i64_w, i32_w]
      rfl
    refine pure_ (i := 10) (N := some 17) (v := ?_) (a' := ?_) #[true, true, true, true, true, true, true, true, true, true, true, false, false] rfl rfl (any_of HT_.out (by kernel_rfl)) (fun _ _ _ h => h) (Or.inl ⟨by rfl, ?_⟩) ?_ ?_
    rotate_left
    · intro w'
      go_simp
      with_reducible rfl
    rotate_left
    · simp only [Act.put, List.setIfInBounds_toArray, List.set_cons_zero, List.set_cons_succ, i64_w, i32_w]
      rfl
    refine pure_ (i := 11) (N := some 2) (v := ?_) (a' := ?_) #[true, true, true, true, true, true, true, true, true, true, true, true, false] rfl rfl (any_of HT_.out (by kernel_rfl)) (fun _ _ _ h => h) (Or.inl ⟨by rfl, ?_⟩) ?_ ?_
    rotate_left
    · intro w'
      go_simp
      with_reducible rfl
    rotate_left
    · simp only [Act.put, List.setIfInBounds_toArray, List.set_cons_zero, List.set_cons_succ, i64_w, i32_w]
      rfl
    refine pure_ (i := 12) (N := some 3) (v := ?_) (a' := ?_) #[true, true, true, true, true, true, true, true, true, true, true, true, true] rfl rfl (any_of HT_.out (by kernel_rfl)) (fun _ _ _ h => h) (Or.inl ⟨by rfl, ?_⟩) ?_ ?_
    rotate_left
    · intro w'
      go_simp
      with_reducible rfl
    rotate_left
    · simp only [Act.put, List.setIfInBounds_toArray, List.set_cons_zero, List.set_cons_succ, i64_w, i32_w]
      rfl
    refine done_ (done_of HT_.out (by kernel_rfl)) ?_
    go_wp2
    refine bodyPost_ret (results_tmp2 rfl _ _ _) rfl ?_
    exact ⟨rfl, HB6.out⟩

def lawSpoiled.T10 : Bool × List (List Nat × List Nat) := (true, [([], []), ([], []), ([1], [1]), ([0, 2, 2], [0, 2]), ([3], [3])])
def lawSpoiled.B10 : List Nat := [0, 0, 2, 7, 15]
theorem lawSpoiled.tab10 : rtab .any (opsOf Tryd.f6 10) = lawSpoiled.T10 := by kernel_rfl
theorem lawSpoiled.bits10 : waitsOk lawSpoiled.T10.2 lawSpoiled.B10 = true := by kernel_rfl

set_option maxRecDepth 100000 in
set_option maxHeartbeats 8000000 in
theorem lawSpoiled_any {p b : T} {ws : List T} {A : Option Addr} {c : Nat} (hp : p.length ≤ 9223372036854775807) (hb : b.length ≤ 9223372036854775807) (hl : ws.length ≤ 9223372036854775807) (hw : ∀ x ∈ ws, x.length ≤ 9223372036854775807)  (w : World) (hT : Texts w A c ws) (hM : ML w) :
    Calls Tryd.prog 6 #[.agg #[.string (str p), .string (str b), .slice A ws.length c]] w fun e w' => e = .returned (.bool true) ∧ Below w.heap.size w w' := by
  have HT := Aside0.mk hT
  have HM := Aside0.mk hM
  have HSZ := Aside0.mk (fun W (h : Texts W A c ws) => szScheme_any hp hb hl hw W h)
  have hB1 : Aside0 (Below w.heap.size w (w.alloc (.cells #[.string (str p), .string (str b), .slice A ws.length c] 24))) := ⟨(Below.refl _ w).alloc (Nat.le_refl _) _⟩
  have hC1 : Aside0 (Below (w.heap.size + 1) (w.alloc (.cells #[.string (str p), .string (str b), .slice A ws.length c] 24)) (w.alloc (.cells #[.string (str p), .string (str b), .slice A ws.length c] 24))) := ⟨Below.refl _ _⟩
  clear hT hM hw
  go_enter Tryd.func6, Tryd.ntmps6
  go_wp2_with (first
    | (go_at_call 14; refine (HSZ.out _ (texts_below HT.out hB1.out)).mono ?_; rintro e w2 ⟨v, rfl, hv, hb2⟩; have HB2 := Aside0.mk (hB1.out.trans (hb2.mono hB1.out.size)); have HC2 := Aside0.mk (hC1.out.trans (hb2.mono (by rw [al_size]; omega))); have HSM := Aside0.mk (fun h : 0 ≤ v => (show Small p b ws from hv h)); obtain ⟨k0, k1, k2⟩ := box24_cells HC2.out; clear hv hb2)
    | (go_at_call 16; refine (toScheme_any (HSM.out (by omega)).2.2.1 _ (texts_below HT.out HB2.out)).mono ?_; rintro e w3 ⟨A3, c3, rfl, hT3, hb3⟩; have HT3 := Aside0.mk hT3; have HB3 := Aside0.mk (HB2.out.trans (hb3.mono HB2.out.size)); have HC3 := Aside0.mk (HC2.out.trans (hb3.mono (Nat.le_trans (by rw [al_size]; omega) HC2.out.size))); clear HB2 HC2 k0 k1 k2 hb3 hT3)
    | (go_at_call 25; refine (specSpoiled_any (HSM.out (by omega))  _ HT3.out).mono ?_; rintro e w4 ⟨rfl, hb4⟩; have HB4 := Aside0.mk (HB3.out.trans (hb4.mono HB3.out.size)); have HC4 := Aside0.mk (HC3.out.trans (hb4.mono (Nat.le_trans (by rw [al_size]; omega) HC3.out.size))); obtain ⟨k0, k1, k2⟩ := box24_cells HC4.out; clear HB3 HC3 hb4)
    | (go_at_call 16; refine (toScheme_any (HSM.out (by omega)).2.2.1 _ (texts_below HT.out HB4.out)).mono ?_; rintro e w5 ⟨A5, c5, rfl, hT5, hb5⟩; have HT5 := Aside0.mk hT5; have HB5 := Aside0.mk (HB4.out.trans (hb5.mono HB4.out.size)); have HC5 := Aside0.mk (HC4.out.trans (hb5.mono (Nat.le_trans (by rw [al_size]; omega) HC4.out.size))); have HL5 : Aside0 (w.heap.size + 1 ≤ w5.heap.size) := ⟨Nat.le_trans (by rw [al_size]; omega) HC5.out.size⟩; clear HB4 HC4 k0 k1 k2 hb5 hT5)
    | (go_at_call 26; refine (implSpoiled_any (HSM.out (by omega))  _ (texts_below HT5.out ((Below.refl _ w5).alloc (Nat.le_refl _) _)) (ml_below HM.out (HB5.out.alloc HB5.out.size _))).mono ?_; rintro e w7 ⟨rfl, hb7⟩; have HB7 := Aside0.mk ((HB5.out.alloc HB5.out.size _).trans (hb7.mono (HB5.out.alloc HB5.out.size _).size)); have HC7 := Aside0.mk ((HC5.out.alloc HL5.out _).trans (hb7.mono (by rw [al_size]; have := HL5.out; omega))); have HD7 := Aside0.mk (hb7.mono (show w5.heap.size + 1 ≤ _ by rw [al_size]; omega)); have HX7 := Aside0.mk (texts_below (texts_below HT5.out ((Below.refl _ w5).alloc (Nat.le_refl _) _)) hb7); clear hb7))
  rotate_left
  focus
    have HS7 := Aside0.mk (And.intro (box24_cells HC7.out).1 (And.intro (box24_cells HC7.out).2.1 (And.intro (box24_cells HC7.out).2.2 (box_cells HD7.out))))
    have HB8 := Aside0.mk (below_drew1 HB7.out)
    have HX8 : Aside0 (Texts w7.drew A5 c5 ws) := ⟨texts_below HX7.out (below_drew1 (Below.refl _ w7))⟩
    have hsl := (HSM.out (by omega)).2.2.1
    have HTO := Aside0.mk (fun W (h : Texts W A c ws) => toScheme_any (p := p) (b := b) hsl W h)
    refine start_ (n := 5) (S := fun w' => w'.cell? ⟨w.heap.size, 0, none⟩ = some (.string (str p)) ∧ w'.cell? ⟨w.heap.size, 1, none⟩ = some (.string (str b)) ∧ w'.cell? ⟨w.heap.size, 2, none⟩ = some (.slice A ws.length c) ∧ w'.cell? ⟨w5.heap.size, 0, none⟩ = some (.string (str p)) ∧ w'.cell? ⟨w5.heap.size, 1, none⟩ = some (.string (str b)) ∧ w'.cell? ⟨w5.heap.size, 2, none⟩ = some (.slice A5 ws.length c5)) (ds := []) #[false, false, false, false, false] (by kernel_rfl) rfl rfl HS7.out (fun hHeld => ?_); refine with_tabW lawSpoiled.tab10 lawSpoiled.bits10 (fun HT_ HW_ => ?_)
    generalize w7.drew = w8 at HB8 HX8 hHeld ⊢
    refine take_ (i := 0) (N := some 35) (v := ?_) (a' := ?_) #[true, false, false, false, false] rfl rfl (take_ofW HT_.out HW_.out (by kernel_rfl)) (fun _ _ _ h => h) (Or.inl ⟨by rfl, ?_⟩) hHeld ?_ ?_
    rotate_left
    · rintro w' ⟨s0, s1, s2, s3, s4, s5⟩
      go_simp
      with_reducible rfl
    rotate_left
    · simp only [Act.put, List.setIfInBounds_toArray, List.set_cons_zero, List.set_cons_succ, i64_w, i32_w]
      rfl
    refine take_ (i := 1) (N := some 36) (v := ?_) (a' := ?_) #[true, true, false, false, false] rfl rfl (take_ofW HT_.out HW_.out (by kernel_rfl)) (fun _ _ _ h => h) (Or.inl ⟨by rfl, ?_⟩) hHeld ?_ ?_
    rotate_left
    · rintro w' ⟨s0, s1, s2, s3, s4, s5⟩
      go_simp
      with_reducible rfl
    rotate_left
    · simp only [Act.put, List.setIfInBounds_toArray, List.set_cons_zero, List.set_cons_succ, i64_w, i32_w]
      rfl
    refine one_ (i := 2) (N := some 37) #[true, true, true, false, false] rfl rfl (one_of HT_.out (by kernel_rfl)) (by decide) (fun K hK => ?_)
    refine goes_ Tryd.func16 (by kernel_rfl) rfl #[.agg #[.string (str p), .string (str b), .slice A ws.length c]] (by rfl) rfl rfl (by (try simp only [List.map_toArray, List.map_cons, List.map_nil]); first | done | rfl) ?_
    refine (HTO.out _ (texts_below HT.out HB8.out)).mono ?_
    rintro e w9 ⟨A9, c9, rfl, hT9, hb9⟩
    have HT9 := Aside0.mk hT9
    have HB9 := Aside0.mk (HB8.out.trans (hb9.mono HB8.out.size))
    have HX9 := Aside0.mk (texts_below HX8.out hb9)
    clear hT9
    refine ⟨_, rfl, ?_⟩
    refine hK.out _ _ ⟨(hb9.cell (World.block_lt_of_cell? _ _ hHeld.1)).trans hHeld.1, (hb9.cell (World.block_lt_of_cell? _ _ hHeld.2.1)).trans hHeld.2.1, (hb9.cell (World.block_lt_of_cell? _ _ hHeld.2.2.1)).trans hHeld.2.2.1, (hb9.cell (World.block_lt_of_cell? _ _ hHeld.2.2.2.1)).trans hHeld.2.2.2.1, (hb9.cell (World.block_lt_of_cell? _ _ hHeld.2.2.2.2.1)).trans hHeld.2.2.2.2.1, (hb9.cell (World.block_lt_of_cell? _ _ hHeld.2.2.2.2.2)).trans hHeld.2.2.2.2.2⟩ (fun hHeld => ?_)
    clear hK K
    refine norm_ (a' := ?_) ?_ ?_
    rotate_left
    · show Act.put _ (some 37) _ = _
      simp only [Act.put, List.setIfInBounds_toArray, List.set_cons_zero, List.set_cons_succ, i64_w, i32_w]
      rfl
    refine one_ (i := 3) (N := some 38) #[true, true, true, true, false] rfl rfl (one_of HT_.out (by kernel_rfl)) (by decide) (fun K hK => ?_)
    refine goes_ Tryd.func18 (by kernel_rfl) rfl #[.agg #[.string (str p), .string (str b), .slice A5 ws.length c5], .agg #[.string (str p), .string (str b), .slice A9 ws.length c9]] (by rfl) rfl rfl (by (try simp only [List.map_toArray, List.map_cons, List.map_nil]); first | done | rfl) ?_
    refine (eqScheme_any (by omega) _ HX9.out HT9.out).mono ?_
    rintro e w10 ⟨rfl, hb10⟩
    have HB10 := Aside0.mk (HB9.out.trans (hb10.mono HB9.out.size))
    refine ⟨_, rfl, ?_⟩
    refine hK.out _ _ ⟨(hb10.cell (World.block_lt_of_cell? _ _ hHeld.1)).trans hHeld.1, (hb10.cell (World.block_lt_of_cell? _ _ hHeld.2.1)).trans hHeld.2.1, (hb10.cell (World.block_lt_of_cell? _ _ hHeld.2.2.1)).trans hHeld.2.2.1, (hb10.cell (World.block_lt_of_cell? _ _ hHeld.2.2.2.1)).trans hHeld.2.2.2.1, (hb10.cell (World.block_lt_of_cell? _ _ hHeld.2.2.2.2.1)).trans hHeld.2.2.2.2.1, (hb10.cell (World.block_lt_of_cell? _ _ hHeld.2.2.2.2.2)).trans hHeld.2.2.2.2.2⟩ (fun hHeld => ?_)
    clear hK K
    refine norm_ (a' := ?_) ?_ ?_
    rotate_left
    · show Act.put _ (some 38) _ = _
      simp only [Act.put, List.setIfInBounds_toArray, List.set_cons_zero, List.set_cons_succ, i64_w, i32_w]
      rfl
    refine pure_ (i := 4) (N := some 39) (v := ?_) (a' := ?_) #[true, true, true, true, true] rfl rfl (any_of HT_.out (by kernel_rfl)) (fun _ _ _ h => h) (Or.inl ⟨by rfl, ?_⟩) ?_ ?_
    rotate_left
    · intro w'
      go_simp
      with_reducible rfl
    rotate_left
    · simp only [Act.put, List.setIfInBounds_toArray, List.set_cons_zero, List.set_cons_succ, i64_w, i32_w]
      rfl
    refine done_ (done_of HT_.out (by kernel_rfl)) ?_
    go_wp2
    go_ret
    exact ⟨rfl, HB10.out⟩
  go_ret
  exact ⟨rfl, HB2.out⟩
end Go.Proofs.YtoieadofldkccaaDoor.Plates
