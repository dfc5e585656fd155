/-
  Plates: both sides of CountWithSign; the law.
-/
import Derived.Test.YtoieadofldkccaaDoorHPPlBar
import Derived.Test.YtoieadofldkccaaDoorHPSlim
import Derived.Test.YtoieadofldkccaaDoorHPLawBegin
namespace Go.Proofs.YtoieadofldkccaaDoor.Plates
open Go.RowKit Go.Proofs.YtoieadofldkccaaDoorW.PrintWords Go.Proofs.YtoieadofldkccaaDoorW.PrintLast Go.Proofs.YtoieadofldkccaaDoorW.PrintMore Go.Proofs.YtoieadofldkccaaDoor.PFnExactCountBeginning
open PFake (ML ml_below)
set_option linter.unusedVariables false
set_option linter.unusedSimpArgs false

theorem toScheme_own {p b : T} {ws : List T} {A : Option Addr} {c : Nat} (hl : ws.length ≤ 1048576) (w : World) (ht : Texts w A c ws) :
    Calls Tryd.prog 16 #[.agg #[.string (str p), .string (str b), .slice A ws.length c]] w fun e w' => ∃ A' c', e = .returned (.agg #[.string (str p), .string (str b), .slice A' ws.length c']) ∧ Own w' w.heap.size A' c' ws ∧ Below w.heap.size w w' := by
  have e : laws_toScheme.f (ws.length + 1) (str p) (str b) (ws.map str) = some (str p, str b, ws.map str) := by
    unfold laws_toScheme.f laws_toStringS.f
    rw [List.length_map, if_pos (by omega), Int.toNat_natCast, if_pos (by omega), show (0 : Int) = ((0 : Nat) : Int) from rfl, toS_l0 ws (by omega) ws.length 0 (ws.length + 1) _ (by omega) (by omega) (by simp) (by simp)]
    rfl
  have h := laws_toScheme.calls (ws.length + 1) (str p) (str b) A c (ws.map str) _ _ _ w ht.1 ht.2 e
  rw [List.length_map] at h
  refine h.mono ?_
  rintro e w' ⟨v, rfl, hR, hb⟩
  obtain ⟨A', c', rfl⟩ := Kd.R_slice hR
  rw [List.length_map] at hR
  exact ⟨A', c', by rw [List.length_map], hR, hb⟩

theorem hasB_one (b : T) (x : UInt8) : hasB b [x] = decide (x ∈ b) := by
  by_cases h : x ∈ b
  · rw [decide_eq_true h, hasB_true]
    obtain ⟨l, r, rfl⟩ := List.append_of_mem h
    exact ⟨l, r, by simp⟩
  · rw [decide_eq_false h, hasB_false]
    exact fun hh => h (hh.subset (by simp))
theorem some_one {t : T} (h : decide (Some t 1 1) = true) : ∃ x, t = [x] ∧ Sign x := by
  have h2 := of_decide_eq_true h
  obtain ⟨⟨h3, h4⟩, h5⟩ := h2
  match t, h3, h4, h5 with
  | [x], _, _, h5 => exact ⟨x, rfl, h5 x (by simp)⟩

/-- the answer -/
noncomputable def okV (p b : T) (ws : List T) (t : T) : Bool := goodB p b ws && decide (Some t 1 1)
noncomputable def valV (p b : T) (ws : List T) (t : T) : Int := if okV p b ws t = true then ((fromN p b ws [] : Nat) : Int) - (fromN p (withX b (t.headD 0)) ws [] : Nat) else 0
theorem okV_ways (p b : T) (ws : List T) (t : T) :
    (goodB p b ws = false ∧ okV p b ws t = false ∧ valV p b ws t = 0) ∨
    (goodB p b ws = true ∧ decide (Some t 1 1) = false ∧ okV p b ws t = false ∧ valV p b ws t = 0) ∨
    (goodB p b ws = true ∧ decide (Some t 1 1) = true ∧ okV p b ws t = true ∧ valV p b ws t = ((fromN p b ws [] : Nat) : Int) - (fromN p (withX b (t.headD 0)) ws [] : Nat)) := by
  unfold valV okV
  cases h1 : goodB p b ws <;> cases h2 : decide (Some t 1 1) <;> simp

def withS.T5 : Bool × List (List Nat × List Nat) := (true, [([], []), ([0], [0]), ([], []), ([], []), ([2, 3, 1], [2, 3]), ([4, 4], [4]), ([1, 5], [1, 5]), ([6, 5, 0, 1, 2, 3, 4, 5, 6], [6]), ([7, 0, 1, 2, 3, 4, 5, 6, 7], [])])
def withS.B5 : List Nat := [0, 1, 0, 0, 15, 31, 63, 127, 255]
theorem withS.tab5 : rtab .any (opsOf Tryd.f23 5) = withS.T5 := by kernel_rfl
theorem withS.bits5 : waitsOk withS.T5.2 withS.B5 = true := by kernel_rfl
def withI.T3 : Bool × List (List Nat × List Nat) := (true, [([], []), ([0], [0]), ([1, 1], [1]), ([], []), ([], []), ([3, 4, 2], [3, 4]), ([5, 5], [5]), ([6, 6], [6]), ([2, 7], [2, 7]), ([8, 7, 0, 1, 2, 3, 4, 5, 6, 7, 8], [8]), ([9, 0, 1, 2, 3, 4, 5, 6, 7, 8, 9], [])])
def withI.B3 : List Nat := [0, 1, 3, 0, 0, 31, 63, 127, 255, 511, 1023]
theorem withI.tab3 : rtab .any (opsOf Tryd.f24 3) = withI.T3 := by kernel_rfl
theorem withI.bits3 : waitsOk withI.T3.2 withI.B3 = true := by kernel_rfl

set_option maxRecDepth 100000 in
set_option maxHeartbeats 4000000 in
theorem specWith_any {p b : T} {ws : List T} {A : Option Addr} {c : Nat} (hs : Small p b ws) (t : T) (ht : t.length ≤ 1048576) (w : World) (hT : Texts w A c ws) :
    Calls Tryd.prog 23 #[.agg #[.string (str p), .string (str b), .slice A ws.length c], .string (str t)] w fun e w' => e = .returned (.tuple #[.int .i64 (valV p b ws t), .bool (okV p b ws t)]) ∧ Below w.heap.size w w' := by
  obtain ⟨s1, s2, s3, s4⟩ := hs
  have HS4 : Aside0 (∀ x ∈ ws, x.length ≤ 4000000) := ⟨fun x hx => by have := s4 x hx; omega⟩
  have HT := Aside0.mk hT
  have HPG := Aside0.mk (fun W (h : Texts W A c ws) => plGood_any (p := p) (b := b) (by omega) HS4.out W h)
  have HPS := Aside0.mk (fun W => plSigns_any t (by omega) 1 1 W)
  have hB1 : Aside0 (Below w.heap.size w (w.alloc (.cells #[.string (str p), .string (str b), .slice A ws.length c] 28))) := ⟨(Below.refl _ w).alloc (Nat.le_refl _) _⟩
  have HX1 : Aside0 ((w.alloc (.cells #[.string (str p), .string (str b), .slice A ws.length c] 28)).heap[w.heap.size]? = some (boxS p b A ws.length c)) := ⟨al_new _ _ _ rfl⟩
  clear s4 hT
  rcases okV_ways p b ws t with ⟨g1, g3, g4⟩ | ⟨g1, g2, g3, g4⟩ | ⟨g1, g2, g3, g4⟩
  · rw [g1] at HPG
    rw [g3, g4]
    clear g1 g3 g4
    go_enter Tryd.func23, Tryd.ntmps23
    go_wp2_with (go_at_call 47; refine (HPG.out _ (texts_below HT.out hB1.out)).mono ?_; rintro e w1 ⟨rfl, hb1⟩; have HB1 := Aside0.mk (hB1.out.trans (hb1.mono hB1.out.size)); clear hb1)
    refine bodyPost_ret (results_tmp2 rfl _ _ _) rfl ?_
    exact ⟨rfl, HB1.out⟩
  · rw [g1] at HPG
    rw [g2] at HPS
    rw [g3, g4]
    clear g1 g2 g3 g4
    go_enter Tryd.func23, Tryd.ntmps23
    go_wp2_with (first | (go_at_call 47; refine (HPG.out _ (texts_below HT.out hB1.out)).mono ?_; rintro e w1 ⟨rfl, hb1⟩; have HB1 := Aside0.mk (hB1.out.trans (hb1.mono hB1.out.size)); clear hb1) | (go_at_call 48; refine (HPS.out _).mono ?_; rintro e w' ⟨rfl, ⟨nd, rfl⟩⟩))
    refine bodyPost_ret (results_tmp2 rfl _ _ _) rfl ?_
    exact ⟨rfl, pw_below_drewN HB1.out _⟩
  · obtain ⟨x, rfl, hx⟩ := some_one g2
    have G := good_of g1
    have HHA := Aside0.mk (fun W => plHas_any b [x] (by omega) (by simp) W)
    rw [hasB_one] at HHA
    rw [g1] at HPG
    rw [g2] at HPS
    rw [g3, g4]
    rw [show ([x] : T).headD 0 = x from rfl]
    by_cases hm : x ∈ b
    · rw [decide_eq_true hm] at HHA
      rw [show withX b x = b from by unfold withX; rw [if_pos hm], Int.sub_self]
      clear g1 g2 g3 g4 G hx hm
      go_enter Tryd.func23, Tryd.ntmps23
      go_wp2_with (first | (go_at_call 47; refine (HPG.out _ (texts_below HT.out hB1.out)).mono ?_; rintro e w1 ⟨rfl, hb1⟩; have HB1 := Aside0.mk (hB1.out.trans (hb1.mono hB1.out.size)); have HXA := Aside0.mk (below_box hb1 HX1.out); obtain ⟨k0, k1, k2⟩ := box3_cells HXA.out; clear hb1) | (go_at_call 48; refine (HPS.out _).mono ?_; rintro e w' ⟨rfl, ⟨nd, rfl⟩⟩) | (go_at_call 49; refine (HHA.out _).mono ?_; rintro e w' ⟨rfl, ⟨nd2, rfl⟩⟩))
      refine bodyPost_ret (results_tmp2 rfl _ _ _) rfl ?_
      exact ⟨rfl, pw_below_drewN HB1.out _⟩
    · rw [decide_eq_false hm] at HHA
      have p8 := G.p8
      have HF1 := Aside0.mk (fun W (h : Texts W A c ws) => fromAll_spec G W h)
      have HPB := Aside0.mk (fun W (h : Texts W A c ws) => plBar_any G x hm W h)
      have GX := good_withX G hx
      generalize withX b x = bx at HPB GX ⊢
      have HF2 := Aside0.mk (fun A' c' W (h : Texts W A' c' ws) => fromAll_spec GX W h)
      have b1 := fromN_le b ws [] p8
      have b2 := fromN_le bx ws [] p8
      clear g1 g2 g3 g4 G GX hx hm
      generalize fromN p b ws [] = X at HF1 b1 ⊢
      generalize fromN p bx ws [] = Y at HF2 b2 ⊢
      have eXY : wrap64 ((X : Int) - Y) = (X : Int) - Y := wi (by omega) (by omega)
      go_enter Tryd.func23, Tryd.ntmps23
      go_wp2_with (first | (go_at_call 47; refine (HPG.out _ (texts_below HT.out hB1.out)).mono ?_; rintro e w1 ⟨rfl, hb1⟩; have HB1 := Aside0.mk (hB1.out.trans (hb1.mono hB1.out.size)); have HXA := Aside0.mk (below_box hb1 HX1.out); obtain ⟨k0, k1, k2⟩ := box3_cells HXA.out; clear hb1) | (go_at_call 48; refine (HPS.out _).mono ?_; rintro e w' ⟨rfl, ⟨nd, rfl⟩⟩) | (go_at_call 49; refine (HHA.out _).mono ?_; rintro e w' ⟨rfl, ⟨nd2, rfl⟩⟩))
      clear k0 k1 k2
      have HB2 := Aside0.mk (below_drew1 (pw_below_drewN HB1.out (nd + nd2)))
      have HXB : Aside0 ((w1.drewN (nd + nd2)).drew.heap[w.heap.size]? = some (boxS p b A ws.length c)) := ⟨HXA.out⟩
      refine start_ (n := 9) (S := fun w' => w'.cell? ⟨w.heap.size, 0, none⟩ = some (.string (str p)) ∧ w'.cell? ⟨w.heap.size, 1, none⟩ = some (.string (str b)) ∧ w'.cell? ⟨w.heap.size, 2, none⟩ = some (.slice A ws.length c)) (ds := []) #[false, false, false, false, false, false, false, false, false] (by kernel_rfl) rfl rfl (box3_cells HXB.out) (fun hHeld => ?_); refine with_tabW withS.tab5 withS.bits5 (fun HT_ HW_ => ?_)
      generalize (w1.drewN (nd + nd2)).drew = w2 at HB2 HXB hHeld ⊢
      refine take_ (i := 0) (N := some 18) (v := ?_) (a' := ?_) #[true, false, false, false, false, false, false, false, false] rfl rfl (take_ofW HT_.out HW_.out (by kernel_rfl)) (fun _ _ _ h => h) (Or.inl ⟨by rfl, ?_⟩) hHeld ?_ ?_
      rotate_left
      · rintro w' ⟨s0, s1, s2⟩
        go_simp
        with_reducible rfl
      rotate_left
      · simp only [Act.put, List.setIfInBounds_toArray, List.set_cons_zero, List.set_cons_succ, i64_w, i32_w]
        rfl
      refine take_ (i := 2) (N := some 20) (v := ?_) (a' := ?_) #[true, false, true, false, false, false, false, false, false] rfl rfl (take_ofW HT_.out HW_.out (by kernel_rfl)) (fun _ _ _ h => h) (Or.inl ⟨by rfl, ?_⟩) hHeld ?_ ?_
      rotate_left
      · rintro w' ⟨s0, s1, s2⟩
        go_simp
        with_reducible rfl
      rotate_left
      · simp only [Act.put, List.setIfInBounds_toArray, List.set_cons_zero, List.set_cons_succ, i64_w, i32_w]
        rfl
      refine pure_ (i := 3) (N := some 21) (v := ?_) (a' := ?_) #[true, false, true, true, false, false, false, false, false] rfl rfl (any_of HT_.out (by kernel_rfl)) (fun _ _ _ h => h) (Or.inl ⟨by rfl, ?_⟩) ?_ ?_
      rotate_left
      · intro w'
        go_simp
        with_reducible rfl
      rotate_left
      · simp only [Act.put, List.setIfInBounds_toArray, List.set_cons_zero, List.set_cons_succ, i64_w, i32_w]
        rfl
      refine one_ (i := 1) (N := some 19) #[true, true, true, true, false, false, false, false, false] rfl rfl (one_of HT_.out (by kernel_rfl)) (by decide) (fun K hK => ?_)
      refine goes_ Tryd.func57 (by kernel_rfl) rfl #[.agg #[.string (str p), .string (str b), .slice A ws.length c], .string ⟨#[]⟩] (by rfl) rfl rfl (by (try simp only [List.map_toArray, List.map_cons, List.map_nil]); first | done | rfl) ?_
      refine (HF1.out _ (texts_below HT.out HB2.out)).mono ?_
      rintro e w4 ⟨rfl, hb4⟩
      have HB4 := Aside0.mk (HB2.out.trans (hb4.mono HB2.out.size))
      have HX4 := Aside0.mk (below_box hb4 HXB.out)
      clear hb4
      refine ⟨_, rfl, ?_⟩
      refine hK.out _ _ (box3_cells HX4.out) (fun hHeld => ?_)
      clear hK K
      refine norm_ (a' := ?_) ?_ ?_
      rotate_left
      · show Act.put _ (some 19) _ = _
        simp only [Act.put, List.setIfInBounds_toArray, List.set_cons_zero, List.set_cons_succ, i64_w, i32_w]
        rfl
      refine one_ (i := 4) (N := some 22) #[true, true, true, true, true, false, false, false, false] rfl rfl (one_of HT_.out (by kernel_rfl)) (by decide) (fun K hK => ?_)
      refine goes_ Tryd.func50 (by kernel_rfl) rfl #[.agg #[.string (str p), .string (str b), .slice A ws.length c], .string (str [x])] (by rfl) rfl rfl (by (try simp only [List.map_toArray, List.map_cons, List.map_nil]); first | done | rfl) ?_
      refine (HPB.out _ (texts_below HT.out HB4.out)).mono ?_
      rintro e w5 ⟨A5, c5, rfl, ho5, hb5⟩
      have HT5 := Aside0.mk ho5.texts
      have HB5 := Aside0.mk (HB4.out.trans (hb5.mono HB4.out.size))
      have HX5 := Aside0.mk (below_box hb5 HX4.out)
      clear ho5 hb5
      refine ⟨_, rfl, ?_⟩
      refine hK.out _ _ (box3_cells HX5.out) (fun hHeld => ?_)
      clear hK K
      refine norm_ (a' := ?_) ?_ ?_
      rotate_left
      · show Act.put _ (some 22) _ = _
        simp only [Act.put, List.setIfInBounds_toArray, List.set_cons_zero, List.set_cons_succ, i64_w, i32_w]
        rfl
      refine one_ (i := 5) (N := some 23) #[true, true, true, true, true, true, false, false, false] rfl rfl (one_of HT_.out (by kernel_rfl)) (by decide) (fun K hK => ?_)
      refine goes_ Tryd.func57 (by kernel_rfl) rfl #[.agg #[.string (str p), .string (str bx), .slice A5 ws.length c5], .string ⟨#[]⟩] (by rfl) rfl rfl (by (try simp only [List.map_toArray, List.map_cons, List.map_nil]); first | done | rfl) ?_
      refine (HF2.out _ _ _ HT5.out).mono ?_
      rintro e w6 ⟨rfl, hb6⟩
      have HB6 := Aside0.mk (HB5.out.trans (hb6.mono HB5.out.size))
      have HX6 := Aside0.mk (below_box hb6 HX5.out)
      clear hb6
      refine ⟨_, rfl, ?_⟩
      refine hK.out _ _ (box3_cells HX6.out) (fun hHeld => ?_)
      clear hK K
      refine norm_ (a' := ?_) ?_ ?_
      rotate_left
      · show Act.put _ (some 23) _ = _
        simp only [Act.put, List.setIfInBounds_toArray, List.set_cons_zero, List.set_cons_succ, i64_w, i32_w]
        rfl
      refine pure_ (i := 6) (N := some 24) (v := ?_) (a' := ?_) #[true, true, true, true, true, true, true, false, false] rfl rfl (any_of HT_.out (by kernel_rfl)) (fun _ _ _ h => h) (Or.inl ⟨by rfl, ?_⟩) ?_ ?_
      rotate_left
      · intro w'
        go_simp
        with_reducible rfl
      rotate_left
      · simp only [Act.put, List.setIfInBounds_toArray, List.set_cons_zero, List.set_cons_succ, i64_w, i32_w]
        rfl
      refine pure_ (i := 7) (N := some 4) (v := ?_) (a' := ?_) #[true, true, true, true, true, true, true, true, false] rfl rfl (any_of HT_.out (by kernel_rfl)) (fun _ _ _ h => h) (Or.inl ⟨by rfl, ?_⟩) ?_ ?_
      rotate_left
      · intro w'
        go_simp
        with_reducible rfl
      rotate_left
      · simp only [Act.put, List.setIfInBounds_toArray, List.set_cons_zero, List.set_cons_succ, i64_w, i32_w]
        rfl
      refine pure_ (i := 8) (N := some 5) (v := ?_) (a' := ?_) #[true, true, true, true, true, true, true, true, true] rfl rfl (any_of HT_.out (by kernel_rfl)) (fun _ _ _ h => h) (Or.inl ⟨by rfl, ?_⟩) ?_ ?_
      rotate_left
      · intro w'
        go_simp
        with_reducible rfl
      rotate_left
      · simp only [Act.put, List.setIfInBounds_toArray, List.set_cons_zero, List.set_cons_succ, i64_w, i32_w]
        rfl
      refine done_ (done_of HT_.out (by kernel_rfl)) ?_
      go_wp2
      refine bodyPost_ret (results_tmp2 rfl _ _ _) rfl ?_
      exact ⟨rfl, HB6.out⟩

set_option maxRecDepth 100000 in
set_option maxHeartbeats 4000000 in
theorem implWith_any {p b : T} {ws : List T} {A : Option Addr} {c : Nat} (hs : Small p b ws) (t : T) (ht : t.length ≤ 1048576) (hA : ∀ ad, A = some ad → ad.spot = none) (w : World) (hT : Texts w A c ws) (hM : ML w) :
    Calls Tryd.prog 24 #[.agg #[.string (str p), .string (str b), .slice A ws.length c], .string (str t)] w fun e w' => e = .returned (.tuple #[.int .i64 (valV p b ws t), .bool (okV p b ws t)]) ∧ Below w.heap.size w w' := by
  obtain ⟨s1, s2, s3, s4⟩ := hs
  have HS4 : Aside0 (∀ x ∈ ws, x.length ≤ 4000000) := ⟨fun x hx => by have := s4 x hx; omega⟩
  have HT := Aside0.mk hT
  have HM := Aside0.mk hM
  have HPG := Aside0.mk (fun W (h : Texts W A c ws) => isScheme_any (p := p) (b := b) (by omega) (by omega) (by omega) HS4.out W h)
  have HPS := Aside0.mk (fun W => areSigns_any t (by omega) 1 1 W)
  have hB1 : Aside0 (Below w.heap.size w (w.alloc (.cells #[.string (str p), .string (str b), .slice A ws.length c] 28))) := ⟨(Below.refl _ w).alloc (Nat.le_refl _) _⟩
  have HX1 : Aside0 ((w.alloc (.cells #[.string (str p), .string (str b), .slice A ws.length c] 28)).heap[w.heap.size]? = some (boxS p b A ws.length c)) := ⟨al_new _ _ _ rfl⟩
  clear s4 hT hM
  rcases okV_ways p b ws t with ⟨g1, g3, g4⟩ | ⟨g1, g2, g3, g4⟩ | ⟨g1, g2, g3, g4⟩
  · rw [g1] at HPG
    rw [g3, g4]
    clear g1 g3 g4 hA
    go_enter Tryd.func24, Tryd.ntmps24
    go_wp2_with (go_at_call 51; refine (HPG.out _ (texts_below HT.out hB1.out)).mono ?_; rintro e w1 ⟨rfl, hb1⟩; have HB1 := Aside0.mk (hB1.out.trans (hb1.mono hB1.out.size)); clear hb1)
    refine bodyPost_ret (results_tmp2 rfl _ _ _) rfl ?_
    exact ⟨rfl, HB1.out⟩
  · rw [g1] at HPG
    rw [g2] at HPS
    rw [g3, g4]
    clear g1 g2 g3 g4 hA
    go_enter Tryd.func24, Tryd.ntmps24
    go_wp2_with (first | (go_at_call 51; refine (HPG.out _ (texts_below HT.out hB1.out)).mono ?_; rintro e w1 ⟨rfl, hb1⟩; have HB1 := Aside0.mk (hB1.out.trans (hb1.mono hB1.out.size)); clear hb1) | (go_at_call 52; refine (HPS.out _).mono ?_; rintro e w' ⟨rfl, ⟨nd, rfl⟩⟩))
    refine bodyPost_ret (results_tmp2 rfl _ _ _) rfl ?_
    exact ⟨rfl, pw_below_drewN HB1.out _⟩
  · obtain ⟨x, rfl, hx⟩ := some_one g2
    have G := good_of g1
    rw [g1] at HPG
    rw [g2] at HPS
    rw [g3, g4]
    rw [show ([x] : T).headD 0 = x from rfl]
    have p8 := G.p8
    have HC1 := Aside0.mk (fun W => counterOf_any (p := p) (b := b) (ws := ws) (A := A) (c := c) W)
    have HF1 := Aside0.mk (fun (bm : Nat) (hbm : w.heap.size ≤ bm) (W : World) (hB : Below w.heap.size w W) (hM : Memo p b ws W bm 0) => fromAll_any (A := A) (c := c) G w HT.out HM.out bm hbm 0 (by omega) W hB hM)
    have HBA := Aside0.mk (fun W (h : Texts W A c ws) => barred_any G x hA W h)
    have GX := good_withX G hx
    generalize withX b x = bx at HBA GX ⊢
    have HC2 := Aside0.mk (fun A' c' W => counterOf_any (p := p) (b := bx) (ws := ws) (A := A') (c := c') W)
    have HF2 := Aside0.mk (fun (A' : Option Addr) (c' : Nat) (w0 : World) (hT0 : Texts w0 A' c' ws) (hM0 : ML w0) (bm : Nat) (hbm : w0.heap.size ≤ bm) (W : World) (hB : Below w0.heap.size w0 W) (hM : Memo p bx ws W bm 0) => fromAll_any (A := A') (c := c') GX w0 hT0 hM0 bm hbm 0 (by omega) W hB hM)
    have b1 := fromN_le b ws [] p8
    have b2 := fromN_le bx ws [] p8
    clear g1 g2 g3 g4 G GX hx hA
    generalize fromN p b ws [] = X at HF1 b1 ⊢
    generalize fromN p bx ws [] = Y at HF2 b2 ⊢
    have eXY : wrap64 ((X : Int) - Y) = (X : Int) - Y := wi (by omega) (by omega)
    go_enter Tryd.func24, Tryd.ntmps24
    go_wp2_with (first | (go_at_call 51; refine (HPG.out _ (texts_below HT.out hB1.out)).mono ?_; rintro e w1 ⟨rfl, hb1⟩; have HB1 := Aside0.mk (hB1.out.trans (hb1.mono hB1.out.size)); have HXA := Aside0.mk (below_box hb1 HX1.out); clear hb1) | (go_at_call 52; refine (HPS.out _).mono ?_; rintro e w' ⟨rfl, ⟨nd, rfl⟩⟩))
    have HB2 := Aside0.mk (below_drew1 (pw_below_drewN HB1.out nd))
    have HXB : Aside0 ((w1.drewN nd).drew.heap[w.heap.size]? = some (boxS p b A ws.length c)) := ⟨HXA.out⟩
    refine start_ (n := 11) (S := fun w' => w'.cell? ⟨w.heap.size, 0, none⟩ = some (.string (str p)) ∧ w'.cell? ⟨w.heap.size, 1, none⟩ = some (.string (str b)) ∧ w'.cell? ⟨w.heap.size, 2, none⟩ = some (.slice A ws.length c)) (ds := []) #[false, false, false, false, false, false, false, false, false, false, false] (by kernel_rfl) rfl rfl (box3_cells HXB.out) (fun hHeld => ?_); refine with_tabW withI.tab3 withI.bits3 (fun HT_ HW_ => ?_)
    generalize (w1.drewN nd).drew = w2 at HB2 HXB hHeld ⊢
    refine take_ (i := 0) (N := some 14) (v := ?_) (a' := ?_) #[true, false, false, false, false, false, false, false, false, false, false] rfl rfl (take_ofW HT_.out HW_.out (by kernel_rfl)) (fun _ _ _ h => h) (Or.inl ⟨by rfl, ?_⟩) hHeld ?_ ?_
    rotate_left
    · rintro w' ⟨s0, s1, s2⟩
      go_simp
      with_reducible rfl
    rotate_left
    · simp only [Act.put, List.setIfInBounds_toArray, List.set_cons_zero, List.set_cons_succ, i64_w, i32_w]
      rfl
    refine take_ (i := 3) (N := some 17) (v := ?_) (a' := ?_) #[true, false, false, true, false, false, false, false, false, false, false] rfl rfl (take_ofW HT_.out HW_.out (by kernel_rfl)) (fun _ _ _ h => h) (Or.inl ⟨by rfl, ?_⟩) hHeld ?_ ?_
    rotate_left
    · rintro w' ⟨s0, s1, s2⟩
      go_simp
      with_reducible rfl
    rotate_left
    · simp only [Act.put, List.setIfInBounds_toArray, List.set_cons_zero, List.set_cons_succ, i64_w, i32_w]
      rfl
    refine pure_ (i := 4) (N := some 18) (v := ?_) (a' := ?_) #[true, false, false, true, true, false, false, false, false, false, false] rfl rfl (any_of HT_.out (by kernel_rfl)) (fun _ _ _ h => h) (Or.inl ⟨by rfl, ?_⟩) ?_ ?_
    rotate_left
    · intro w'
      go_simp
      with_reducible rfl
    rotate_left
    · simp only [Act.put, List.setIfInBounds_toArray, List.set_cons_zero, List.set_cons_succ, i64_w, i32_w]
      rfl
    refine one_ (i := 1) (N := some 15) #[true, true, false, true, true, false, false, false, false, false, false] rfl rfl (one_of HT_.out (by kernel_rfl)) (by decide) (fun K hK => ?_)
    refine goes_ Tryd.func58 (by kernel_rfl) rfl #[.agg #[.string (str p), .string (str b), .slice A ws.length c]] (by rfl) rfl rfl (by (try simp only [List.map_toArray, List.map_cons, List.map_nil]); first | done | rfl) ?_
    refine (HC1.out _).mono ?_
    rintro e w3 ⟨bm, rfl, hm3, hbm3, hb3⟩
    have HB3 := Aside0.mk (HB2.out.trans (hb3.out.mono HB2.out.size))
    have HX3 := Aside0.mk (below_box hb3.out HXB.out)
    have HM3 := hm3
    have HBM := Aside0.mk (Nat.le_trans HB2.out.size hbm3.out)
    have HBX : Aside0 (w.heap.size < bm) := ⟨Nat.lt_of_lt_of_le (Array.getElem?_eq_some_iff.1 HXB.out).1 hbm3.out⟩
    clear hb3 hm3 hbm3
    refine ⟨_, rfl, ?_⟩
    refine hK.out _ _ (box3_cells HX3.out) (fun hHeld => ?_)
    clear hK K
    refine norm_ (a' := ?_) ?_ ?_
    rotate_left
    · show Act.put _ (some 15) _ = _
      simp only [Act.put, List.setIfInBounds_toArray, List.set_cons_zero, List.set_cons_succ, i64_w, i32_w]
      rfl
    refine one_ (i := 2) (N := some 16) #[true, true, true, true, true, false, false, false, false, false, false] rfl rfl (one_of HT_.out (by kernel_rfl)) (by decide) (fun K hK => ?_)
    refine goes_ Tryd.func59 (by kernel_rfl) rfl #[counterV p b A ws.length c (.map (some bm)), .int .i64 0, .string ⟨#[]⟩] (by rfl) rfl rfl (by (try simp only [List.map_toArray, List.map_cons, List.map_nil]); first | done | rfl) ?_
    refine (HF1.out bm HBM.out _ HB3.out HM3.out).mono ?_
    rintro e w4 ⟨rfl, _, hg4⟩
    have HB4 := Aside0.mk (HB3.out.trans (below_grown hg4.out HBM.out HB3.out.size))
    have HX4 := Aside0.mk ((hg4.out.block w.heap.size (Array.getElem?_eq_some_iff.1 HX3.out).1 (fun e => by have := Option.some.inj e; have := HBX.out; omega)).trans HX3.out)
    clear hg4
    refine ⟨_, rfl, ?_⟩
    refine hK.out _ _ (box3_cells HX4.out) (fun hHeld => ?_)
    clear hK K
    refine norm_ (a' := ?_) ?_ ?_
    rotate_left
    · show Act.put _ (some 16) _ = _
      simp only [Act.put, List.setIfInBounds_toArray, List.set_cons_zero, List.set_cons_succ, i64_w, i32_w]
      rfl
    refine one_ (i := 5) (N := some 19) #[true, true, true, true, true, true, false, false, false, false, false] rfl rfl (one_of HT_.out (by kernel_rfl)) (by decide) (fun K hK => ?_)
    refine goes_ Tryd.func54 (by kernel_rfl) rfl #[.agg #[.string (str p), .string (str b), .slice A ws.length c], .string (str [x])] (by rfl) rfl rfl (by (try simp only [List.map_toArray, List.map_cons, List.map_nil]); first | done | rfl) ?_
    refine (HBA.out _ (texts_below HT.out HB4.out)).mono ?_
    rintro e w5 ⟨A5, c5, rfl, ho5, hb5⟩
    have HT5 := Aside0.mk ho5.texts
    have HB5 := Aside0.mk (HB4.out.trans (hb5.mono HB4.out.size))
    have HX5 := Aside0.mk (below_box hb5 HX4.out)
    clear ho5 hb5
    refine ⟨_, rfl, ?_⟩
    refine hK.out _ _ (box3_cells HX5.out) (fun hHeld => ?_)
    clear hK K
    refine norm_ (a' := ?_) ?_ ?_
    rotate_left
    · show Act.put _ (some 19) _ = _
      simp only [Act.put, List.setIfInBounds_toArray, List.set_cons_zero, List.set_cons_succ, i64_w, i32_w]
      rfl
    refine one_ (i := 6) (N := some 20) #[true, true, true, true, true, true, true, false, false, false, false] rfl rfl (one_of HT_.out (by kernel_rfl)) (by decide) (fun K hK => ?_)
    refine goes_ Tryd.func58 (by kernel_rfl) rfl #[.agg #[.string (str p), .string (str bx), .slice A5 ws.length c5]] (by rfl) rfl rfl (by (try simp only [List.map_toArray, List.map_cons, List.map_nil]); first | done | rfl) ?_
    refine (HC2.out _ _ _).mono ?_
    rintro e w7 ⟨bm2, rfl, hm7, hbm7, hb7⟩
    have HB7 := Aside0.mk (HB5.out.trans (hb7.out.mono HB5.out.size))
    have HX7 := Aside0.mk (below_box hb7.out HX5.out)
    have HM7 := hm7
    have HBM7 := hbm7
    have HBB7 := hb7
    have HBX7 : Aside0 (w.heap.size < bm2) := ⟨Nat.lt_of_lt_of_le (Array.getElem?_eq_some_iff.1 HX5.out).1 hbm7.out⟩
    clear hb7 hm7 hbm7
    refine ⟨_, rfl, ?_⟩
    refine hK.out _ _ (box3_cells HX7.out) (fun hHeld => ?_)
    clear hK K
    refine norm_ (a' := ?_) ?_ ?_
    rotate_left
    · show Act.put _ (some 20) _ = _
      simp only [Act.put, List.setIfInBounds_toArray, List.set_cons_zero, List.set_cons_succ, i64_w, i32_w]
      rfl
    refine one_ (i := 7) (N := some 21) #[true, true, true, true, true, true, true, true, false, false, false] rfl rfl (one_of HT_.out (by kernel_rfl)) (by decide) (fun K hK => ?_)
    refine goes_ Tryd.func59 (by kernel_rfl) rfl #[counterV p bx A5 ws.length c5 (.map (some bm2)), .int .i64 0, .string ⟨#[]⟩] (by rfl) rfl rfl (by (try simp only [List.map_toArray, List.map_cons, List.map_nil]); first | done | rfl) ?_
    refine (HF2.out _ _ w5 HT5.out (ml_below HM.out HB5.out) bm2 HBM7.out _ HBB7.out HM7.out).mono ?_
    rintro e w8 ⟨rfl, _, hg8⟩
    have HB8 := Aside0.mk (HB7.out.trans (below_grown hg8.out (Nat.le_trans HB5.out.size HBM7.out) HB7.out.size))
    have HX8 := Aside0.mk ((hg8.out.block w.heap.size (Array.getElem?_eq_some_iff.1 HX7.out).1 (fun e => by have := Option.some.inj e; have := HBX7.out; omega)).trans HX7.out)
    clear hg8
    refine ⟨_, rfl, ?_⟩
    refine hK.out _ _ (box3_cells HX8.out) (fun hHeld => ?_)
    clear hK K
    refine norm_ (a' := ?_) ?_ ?_
    rotate_left
    · show Act.put _ (some 21) _ = _
      simp only [Act.put, List.setIfInBounds_toArray, List.set_cons_zero, List.set_cons_succ, i64_w, i32_w]
      rfl
    refine pure_ (i := 8) (N := some 22) (v := ?_) (a' := ?_) #[true, true, true, true, true, true, true, true, true, false, false] rfl rfl (any_of HT_.out (by kernel_rfl)) (fun _ _ _ h => h) (Or.inl ⟨by rfl, ?_⟩) ?_ ?_
    rotate_left
    · intro w'
      go_simp
      with_reducible rfl
    rotate_left
    · simp only [Act.put, List.setIfInBounds_toArray, List.set_cons_zero, List.set_cons_succ, i64_w, i32_w]
      rfl
    refine pure_ (i := 9) (N := some 4) (v := ?_) (a' := ?_) #[true, true, true, true, true, true, true, true, true, true, false] rfl rfl (any_of HT_.out (by kernel_rfl)) (fun _ _ _ h => h) (Or.inl ⟨by rfl, ?_⟩) ?_ ?_
    rotate_left
    · intro w'
      go_simp
      with_reducible rfl
    rotate_left
    · simp only [Act.put, List.setIfInBounds_toArray, List.set_cons_zero, List.set_cons_succ, i64_w, i32_w]
      rfl
    refine pure_ (i := 10) (N := some 5) (v := ?_) (a' := ?_) #[true, true, true, true, true, true, true, true, true, true, true] rfl rfl (any_of HT_.out (by kernel_rfl)) (fun _ _ _ h => h) (Or.inl ⟨by rfl, ?_⟩) ?_ ?_
    rotate_left
    · intro w'
      go_simp
      with_reducible rfl
    rotate_left
    · simp only [Act.put, List.setIfInBounds_toArray, List.set_cons_zero, List.set_cons_succ, i64_w, i32_w]
      rfl
    refine done_ (done_of HT_.out (by kernel_rfl)) ?_
    go_wp2
    refine bodyPost_ret (results_tmp2 rfl _ _ _) rfl ?_
    exact ⟨rfl, HB8.out⟩

def lawWith.T12 : Bool × List (List Nat × List Nat) := (true, [([], []), ([], []), ([1], [1]), ([0, 2, 2], [0, 2]), ([3], [3])])
def lawWith.B12 : List Nat := [0, 0, 2, 7, 15]
theorem lawWith.tab12 : rtab .any (opsOf Tryd.f5 12) = lawWith.T12 := by kernel_rfl
theorem lawWith.bits12 : waitsOk lawWith.T12.2 lawWith.B12 = true := by kernel_rfl

set_option maxRecDepth 100000 in
set_option maxHeartbeats 8000000 in
theorem lawWith_any {p b : T} {ws : List T} {A : Option Addr} {c : Nat} (hp : p.length ≤ 9223372036854775807) (hb : b.length ≤ 9223372036854775807) (hl : ws.length ≤ 9223372036854775807) (hw : ∀ x ∈ ws, x.length ≤ 9223372036854775807) (t : T) (ht : t.length ≤ 9223372036854775807) (w : World) (hT : Texts w A c ws) (hM : ML w) :
    Calls Tryd.prog 5 #[.agg #[.string (str p), .string (str b), .slice A ws.length c], .string (str t)] w fun e w' => e = .returned (.bool true) ∧ Below w.heap.size w w' := by
  have hszt := str_size t
  have HT := Aside0.mk hT
  have HM := Aside0.mk hM
  have HSZ := Aside0.mk (fun W (h : Texts W A c ws) => szScheme_any hp hb hl hw W h)
  have hB1 : Aside0 (Below w.heap.size w (w.alloc (.cells #[.string (str p), .string (str b), .slice A ws.length c] 24))) := ⟨(Below.refl _ w).alloc (Nat.le_refl _) _⟩
  have hC1 : Aside0 (Below (w.heap.size + 1) (w.alloc (.cells #[.string (str p), .string (str b), .slice A ws.length c] 24)) (w.alloc (.cells #[.string (str p), .string (str b), .slice A ws.length c] 24))) := ⟨Below.refl _ _⟩
  clear hT hM hw
  by_cases ct : t.length ≤ 1048576
  case neg =>
    go_enter Tryd.func5, Tryd.ntmps5
    go_wp2
    go_ret
    exact ⟨rfl, hB1.out⟩
  go_enter Tryd.func5, Tryd.ntmps5
  go_wp2_with (first
    | (go_at_call 14; refine (HSZ.out _ (texts_below HT.out hB1.out)).mono ?_; rintro e w2 ⟨v, rfl, hv, hb2⟩; have HB2 := Aside0.mk (hB1.out.trans (hb2.mono hB1.out.size)); have HC2 := Aside0.mk (hC1.out.trans (hb2.mono (by rw [al_size]; omega))); have HSM := Aside0.mk (fun h : 0 ≤ v => (show Small p b ws from hv h)); obtain ⟨k0, k1, k2⟩ := box24_cells HC2.out; clear hv hb2)
    | (go_at_call 16; refine (toScheme_any (HSM.out (by omega)).2.2.1 _ (texts_below HT.out HB2.out)).mono ?_; rintro e w3 ⟨A3, c3, rfl, hT3, hb3⟩; have HT3 := Aside0.mk hT3; have HB3 := Aside0.mk (HB2.out.trans (hb3.mono HB2.out.size)); have HC3 := Aside0.mk (HC2.out.trans (hb3.mono (Nat.le_trans (by rw [al_size]; omega) HC2.out.size))); clear HB2 HC2 k0 k1 k2 hb3 hT3)
    | (go_at_call 23; refine (specWith_any (HSM.out (by omega)) t ct _ HT3.out).mono ?_; rintro e w4 ⟨rfl, hb4⟩; have HB4 := Aside0.mk (HB3.out.trans (hb4.mono HB3.out.size)); have HC4 := Aside0.mk (HC3.out.trans (hb4.mono (Nat.le_trans (by rw [al_size]; omega) HC3.out.size))); obtain ⟨k0, k1, k2⟩ := box24_cells HC4.out; clear HB3 HC3 hb4)
    | (go_at_call 16; refine (toScheme_own (HSM.out (by omega)).2.2.1 _ (texts_below HT.out HB4.out)).mono ?_; rintro e w5 ⟨A5, c5, rfl, ho5, hb5⟩; have hT5 := ho5.texts; have HA5 := Aside0.mk (fun ad h => (ho5.flat ad h).2.1); have HT5 := Aside0.mk hT5; have HB5 := Aside0.mk (HB4.out.trans (hb5.mono HB4.out.size)); have HC5 := Aside0.mk (HC4.out.trans (hb5.mono (Nat.le_trans (by rw [al_size]; omega) HC4.out.size))); have HL5 : Aside0 (w.heap.size + 1 ≤ w5.heap.size) := ⟨Nat.le_trans (by rw [al_size]; omega) HC5.out.size⟩; clear HB4 HC4 k0 k1 k2 hb5 hT5)
    | (go_at_call 24; refine (implWith_any (HSM.out (by omega)) t ct HA5.out _ (texts_below HT5.out ((Below.refl _ w5).alloc (Nat.le_refl _) _)) (ml_below HM.out (HB5.out.alloc HB5.out.size _))).mono ?_; rintro e w7 ⟨rfl, hb7⟩; have HB7 := Aside0.mk ((HB5.out.alloc HB5.out.size _).trans (hb7.mono (HB5.out.alloc HB5.out.size _).size)); have HC7 := Aside0.mk ((HC5.out.alloc HL5.out _).trans (hb7.mono (by rw [al_size]; have := HL5.out; omega))); have HD7 := Aside0.mk (hb7.mono (show w5.heap.size + 1 ≤ _ by rw [al_size]; omega)); have HX7 := Aside0.mk (texts_below (texts_below HT5.out ((Below.refl _ w5).alloc (Nat.le_refl _) _)) hb7); clear hb7))
  rotate_left
  focus
    have HS7 := Aside0.mk (And.intro (box24_cells HC7.out).1 (And.intro (box24_cells HC7.out).2.1 (And.intro (box24_cells HC7.out).2.2 (box_cells HD7.out))))
    have HB8 := Aside0.mk (below_drew1 HB7.out)
    have HX8 : Aside0 (Texts w7.drew A5 c5 ws) := ⟨texts_below HX7.out (below_drew1 (Below.refl _ w7))⟩
    have hsl := (HSM.out (by omega)).2.2.1
    have HTO := Aside0.mk (fun W (h : Texts W A c ws) => toScheme_any (p := p) (b := b) hsl W h)
    refine start_ (n := 5) (S := fun w' => w'.cell? ⟨w.heap.size, 0, none⟩ = some (.string (str p)) ∧ w'.cell? ⟨w.heap.size, 1, none⟩ = some (.string (str b)) ∧ w'.cell? ⟨w.heap.size, 2, none⟩ = some (.slice A ws.length c) ∧ w'.cell? ⟨w5.heap.size, 0, none⟩ = some (.string (str p)) ∧ w'.cell? ⟨w5.heap.size, 1, none⟩ = some (.string (str b)) ∧ w'.cell? ⟨w5.heap.size, 2, none⟩ = some (.slice A5 ws.length c5)) (ds := []) #[false, false, false, false, false] (by kernel_rfl) rfl rfl HS7.out (fun hHeld => ?_); refine with_tabW lawWith.tab12 lawWith.bits12 (fun HT_ HW_ => ?_)
    generalize w7.drew = w8 at HB8 HX8 hHeld ⊢
    refine take_ (i := 0) (N := some 42) (v := ?_) (a' := ?_) #[true, false, false, false, false] rfl rfl (take_ofW HT_.out HW_.out (by kernel_rfl)) (fun _ _ _ h => h) (Or.inl ⟨by rfl, ?_⟩) hHeld ?_ ?_
    rotate_left
    · rintro w' ⟨s0, s1, s2, s3, s4, s5⟩
      go_simp
      with_reducible rfl
    rotate_left
    · simp only [Act.put, List.setIfInBounds_toArray, List.set_cons_zero, List.set_cons_succ, i64_w, i32_w]
      rfl
    refine take_ (i := 1) (N := some 43) (v := ?_) (a' := ?_) #[true, true, false, false, false] rfl rfl (take_ofW HT_.out HW_.out (by kernel_rfl)) (fun _ _ _ h => h) (Or.inl ⟨by rfl, ?_⟩) hHeld ?_ ?_
    rotate_left
    · rintro w' ⟨s0, s1, s2, s3, s4, s5⟩
      go_simp
      with_reducible rfl
    rotate_left
    · simp only [Act.put, List.setIfInBounds_toArray, List.set_cons_zero, List.set_cons_succ, i64_w, i32_w]
      rfl
    refine one_ (i := 2) (N := some 44) #[true, true, true, false, false] rfl rfl (one_of HT_.out (by kernel_rfl)) (by decide) (fun K hK => ?_)
    refine goes_ Tryd.func16 (by kernel_rfl) rfl #[.agg #[.string (str p), .string (str b), .slice A ws.length c]] (by rfl) rfl rfl (by (try simp only [List.map_toArray, List.map_cons, List.map_nil]); first | done | rfl) ?_
    refine (HTO.out _ (texts_below HT.out HB8.out)).mono ?_
    rintro e w9 ⟨A9, c9, rfl, hT9, hb9⟩
    have HT9 := Aside0.mk hT9
    have HB9 := Aside0.mk (HB8.out.trans (hb9.mono HB8.out.size))
    have HX9 := Aside0.mk (texts_below HX8.out hb9)
    clear hT9
    refine ⟨_, rfl, ?_⟩
    refine hK.out _ _ ⟨(hb9.cell (World.block_lt_of_cell? _ _ hHeld.1)).trans hHeld.1, (hb9.cell (World.block_lt_of_cell? _ _ hHeld.2.1)).trans hHeld.2.1, (hb9.cell (World.block_lt_of_cell? _ _ hHeld.2.2.1)).trans hHeld.2.2.1, (hb9.cell (World.block_lt_of_cell? _ _ hHeld.2.2.2.1)).trans hHeld.2.2.2.1, (hb9.cell (World.block_lt_of_cell? _ _ hHeld.2.2.2.2.1)).trans hHeld.2.2.2.2.1, (hb9.cell (World.block_lt_of_cell? _ _ hHeld.2.2.2.2.2)).trans hHeld.2.2.2.2.2⟩ (fun hHeld => ?_)
    clear hK K
    refine norm_ (a' := ?_) ?_ ?_
    rotate_left
    · show Act.put _ (some 44) _ = _
      simp only [Act.put, List.setIfInBounds_toArray, List.set_cons_zero, List.set_cons_succ, i64_w, i32_w]
      rfl
    refine one_ (i := 3) (N := some 45) #[true, true, true, true, false] rfl rfl (one_of HT_.out (by kernel_rfl)) (by decide) (fun K hK => ?_)
    refine goes_ Tryd.func18 (by kernel_rfl) rfl #[.agg #[.string (str p), .string (str b), .slice A5 ws.length c5], .agg #[.string (str p), .string (str b), .slice A9 ws.length c9]] (by rfl) rfl rfl (by (try simp only [List.map_toArray, List.map_cons, List.map_nil]); first | done | rfl) ?_
    refine (eqScheme_any (by omega) _ HX9.out HT9.out).mono ?_
    rintro e w10 ⟨rfl, hb10⟩
    have HB10 := Aside0.mk (HB9.out.trans (hb10.mono HB9.out.size))
    refine ⟨_, rfl, ?_⟩
    refine hK.out _ _ ⟨(hb10.cell (World.block_lt_of_cell? _ _ hHeld.1)).trans hHeld.1, (hb10.cell (World.block_lt_of_cell? _ _ hHeld.2.1)).trans hHeld.2.1, (hb10.cell (World.block_lt_of_cell? _ _ hHeld.2.2.1)).trans hHeld.2.2.1, (hb10.cell (World.block_lt_of_cell? _ _ hHeld.2.2.2.1)).trans hHeld.2.2.2.1, (hb10.cell (World.block_lt_of_cell? _ _ hHeld.2.2.2.2.1)).trans hHeld.2.2.2.2.1, (hb10.cell (World.block_lt_of_cell? _ _ hHeld.2.2.2.2.2)).trans hHeld.2.2.2.2.2⟩ (fun hHeld => ?_)
    clear hK K
    refine norm_ (a' := ?_) ?_ ?_
    rotate_left
    · show Act.put _ (some 45) _ = _
      simp only [Act.put, List.setIfInBounds_toArray, List.set_cons_zero, List.set_cons_succ, i64_w, i32_w]
      rfl
    refine pure_ (i := 4) (N := some 46) (v := ?_) (a' := ?_) #[true, true, true, true, true] rfl rfl (any_of HT_.out (by kernel_rfl)) (fun _ _ _ h => h) (Or.inl ⟨by rfl, ?_⟩) ?_ ?_
    rotate_left
    · intro w'
      go_simp
      with_reducible rfl
    rotate_left
    · simp only [Act.put, List.setIfInBounds_toArray, List.set_cons_zero, List.set_cons_succ, i64_w, i32_w]
      rfl
    refine done_ (done_of HT_.out (by kernel_rfl)) ?_
    go_wp2
    go_ret
    exact ⟨rfl, HB10.out⟩
  go_ret
  exact ⟨rfl, HB2.out⟩
end Go.Proofs.YtoieadofldkccaaDoor.Plates
