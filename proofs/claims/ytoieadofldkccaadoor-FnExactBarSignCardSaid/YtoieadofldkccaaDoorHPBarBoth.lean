/-
  Plates: both sides of BarSign.
-/
import Derived.Test.YtoieadofldkccaaDoorHPMark
namespace Go.Proofs.YtoieadofldkccaaDoor.Plates
open Go.RowKit Go.Proofs.YtoieadofldkccaaDoorW.PrintWords Go.Proofs.YtoieadofldkccaaDoorW.PrintLast Go.Proofs.YtoieadofldkccaaDoorW.PrintMore Go.Proofs.YtoieadofldkccaaDoor.PFnExactCountBeginning Go.Proofs.YtoieadofldkccaaDoor.PBar
set_option linter.unusedVariables false
set_option linter.unusedSimpArgs false

def Small2 (p b : T) (ws : List T) : Prop := p.length ≤ 1048576 ∧ b.length ≤ 1048576 ∧ ws.length ≤ 1048576 ∧ ∀ x ∈ ws, x.length ≤ 1048576
theorem toScheme_own {p b : T} {ws : List T} {A : Option Addr} {c : Nat} (hl : ws.length ≤ 1048576) (w : World) (ht : Texts w A c ws) :
    Calls Tryd.prog 16 #[.agg #[.string (str p), .string (str b), .slice A ws.length c]] w fun e w' => ∃ A' c', e = .returned (.agg #[.string (str p), .string (str b), .slice A' ws.length c']) ∧ Own w' w.heap.size A' c' ws ∧ Below w.heap.size w w' := by
  have e : laws_toScheme.f (ws.length + 1) (str p) (str b) (ws.map str) = some (str p, str b, ws.map str) := by
    unfold laws_toScheme.f laws_toStringS.f
    rw [List.length_map, if_pos (by omega), Int.toNat_natCast, if_pos (by omega), show (0 : Int) = ((0 : Nat) : Int) from rfl, toS_l0 ws (by omega) ws.length 0 (ws.length + 1) _ (by omega) (by omega) (by simp) (by simp)]
    rfl
  have h := laws_toScheme.calls (ws.length + 1) (str p) (str b) A c (ws.map str) _ _ _ w ht.1 ht.2 e
  rw [List.length_map] at h
  refine h.mono ?_
  rintro e w' ⟨v, rfl, hR, hb⟩
  obtain ⟨A', c', rfl⟩ := Kd.R_slice hR
  rw [List.length_map] at hR
  exact ⟨A', c', by rw [List.length_map], hR, hb⟩
theorem hasB_one (b : T) (x : UInt8) : hasB b [x] = decide (x ∈ b) := by
  by_cases h : x ∈ b
  · rw [decide_eq_true h, hasB_true]
    obtain ⟨l, r, rfl⟩ := List.append_of_mem h
    exact ⟨l, r, by simp⟩
  · rw [decide_eq_false h, hasB_false]
    exact fun hh => h (hh.subset (by simp))
theorem some_one {t : T} (h : decide (Some t 1 1) = true) : ∃ x, t = [x] ∧ Sign x := by
  have h2 := of_decide_eq_true h
  obtain ⟨⟨h3, h4⟩, h5⟩ := h2
  match t, h3, h4, h5 with
  | [x], _, _, h5 => exact ⟨x, rfl, h5 x (by simp)⟩
open Classical in
theorem good_of2 {p b : T} {ws : List T} (h : goodB p b ws = true) : Good p b ws := by
  unfold goodB at h; exact of_decide_eq_true h
theorem idx_mem : ∀ (l : T) (c : UInt8), 0 ≤ Lib.indexByte l c ↔ c ∈ l
  | [], c => by simp [Lib.indexByte]
  | b :: l, c => by
    have ih := idx_mem l c
    have hg := Lib.indexByte_ge l c
    unfold Lib.indexByte
    by_cases e : b = c
    · subst e; simp
    · rw [if_neg (by simpa using e)]
      have hne : c ≠ b := fun h => e h.symm
      rw [List.mem_cons, or_iff_right hne, ← ih]
      by_cases h1 : Lib.indexByte l c = -1
      · rw [h1]; simp
      · rw [if_neg (by simpa using h1)]; omega

theorem Own.of_blk {w W : World} {base : Nat} {A : Option Addr} {c : Nat} {ws : List T} (h : Own w base A c ws) (hb : ∀ ad, A = some ad → W.heap[ad.block]? = w.heap[ad.block]?) : Own W base A c ws := by
  have hr := h.row
  refine Kd.R_of_own ⟨by unfold encs; simp, ?_⟩ (fun _ _ => trivial)
  rw [List.length_map]
  rcases hr.2 with ⟨e, e2⟩ | ⟨g, cap, cur, e, hg, hx, h1, h2, h3, h4⟩
  · exact .inl ⟨e, e2⟩
  · refine .inr ⟨g, cap, cur, e, hg, ?_, h1, h2, h3, ?_⟩
    · injection e with e1
      exact (hb _ e1).trans hx
    · rw [h4]
      unfold encs
      rw [List.map_map]
      rfl

/-- the answer -/
noncomputable def okR (p b : T) (ws : List T) (t : T) : Bool := goodB p b ws && (decide (Some t 1 1) && !hasB b t)
noncomputable def rP (p b : T) (ws : List T) (t : T) : T := if okR p b ws t = true then p else []
noncomputable def rB (p b : T) (ws : List T) (t : T) : T := if okR p b ws t = true then withX b (t.headD 0) else []
noncomputable def rW (p b : T) (ws : List T) (t : T) : List T := if okR p b ws t = true then ws else []
theorem rW_le (p b : T) (ws : List T) (t : T) : (rW p b ws t).length ≤ ws.length := by
  unfold rW
  split
  · exact Nat.le_refl _
  · simp
theorem okR_ways (p b : T) (ws : List T) (t : T) :
    (goodB p b ws = false ∧ okR p b ws t = false ∧ rP p b ws t = [] ∧ rB p b ws t = [] ∧ rW p b ws t = []) ∨
    (goodB p b ws = true ∧ decide (Some t 1 1) = false ∧ okR p b ws t = false ∧ rP p b ws t = [] ∧ rB p b ws t = [] ∧ rW p b ws t = []) ∨
    (goodB p b ws = true ∧ decide (Some t 1 1) = true ∧ hasB b t = true ∧ okR p b ws t = false ∧ rP p b ws t = [] ∧ rB p b ws t = [] ∧ rW p b ws t = []) ∨
    (goodB p b ws = true ∧ decide (Some t 1 1) = true ∧ hasB b t = false ∧ okR p b ws t = true ∧ rP p b ws t = p ∧ rB p b ws t = withX b (t.headD 0) ∧ rW p b ws t = ws) := by
  unfold rP rB rW okR
  cases h1 : goodB p b ws <;> cases h2 : decide (Some t 1 1) <;> cases h3 : hasB b t <;> simp

abbrev boxZ : Obj := .cells #[.string ⟨#[]⟩, .string ⟨#[]⟩, .slice none 0 0] 28 (0, 0)
/-- the result's cell is filled -/
theorem fill3 {w W : World} {g : Nat} {v0 v1 v2 : Value} (hy : W.heap[g]? = some boxZ) (hg : w.heap.size ≤ g) (hb : Below w.heap.size w W) :
    (((W.setCell ⟨g, 0, none⟩ v0).setCell ⟨g, 1, none⟩ v1).setCell ⟨g, 2, none⟩ v2).heap[g]? = some (.cells #[v0, v1, v2] 28 (0, 0)) ∧ Below w.heap.size w (((W.setCell ⟨g, 0, none⟩ v0).setCell ⟨g, 1, none⟩ v1).setCell ⟨g, 2, none⟩ v2) :=
  ⟨blk_put (blk_put (blk_put hy 0 _ rfl) 1 _ rfl) 2 _ rfl, below_set (below_set (below_set hb hg) hg) hg⟩
theorem Own.fill {W : World} {base g : Nat} {A : Option Addr} {c : Nat} {ws : List T} {v0 v1 v2 : Value} (h : Own W base A c ws) (hne : g < base) :
    Own (((W.setCell ⟨g, 0, none⟩ v0).setCell ⟨g, 1, none⟩ v1).setCell ⟨g, 2, none⟩ v2) base A c ws :=
  h.of_blk (fun ad e => by
    have h2 := (h.flat ad e).2.2
    exact (Below.heap_setCell _ _ _ _ (by simp only; omega)).trans ((Below.heap_setCell _ _ _ _ (by simp only; omega)).trans (Below.heap_setCell _ _ _ _ (by simp only; omega))))
theorem own_nil (W : World) (base : Nat) : Own W base none 0 [] := Kd.R_nil _ _ _ _ _

/-- what a call of BarSign leaves -/
def BarPost (p b : T) (ws : List T) (t : T) (w : World) (e : Ending) (w' : World) : Prop :=
  ∃ A' c', e = .returned (.tuple #[.agg #[.string (str (rP p b ws t)), .string (str (rB p b ws t)), .slice A' (rW p b ws t).length c'], .bool (okR p b ws t)]) ∧ Own w' w.heap.size A' c' (rW p b ws t) ∧ Below w.heap.size w w'

set_option maxRecDepth 100000 in
set_option maxHeartbeats 4000000 in
theorem specBar_any {p b : T} {ws : List T} {A : Option Addr} {c : Nat} (hs : Small2 p b ws) (t : T) (ht : t.length ≤ 1048576) (w : World) (hT : Texts w A c ws) :
    Calls Tryd.prog 19 #[.agg #[.string (str p), .string (str b), .slice A ws.length c], .string (str t)] w (BarPost p b ws t w) := by
  obtain ⟨s1, s2, s3, s4⟩ := hs
  have HS4 : Aside0 (∀ x ∈ ws, x.length ≤ 4000000) := ⟨fun x hx => by have := s4 x hx; omega⟩
  have HT := Aside0.mk hT
  have HPG := Aside0.mk (fun W (h : Texts W A c ws) => plGood_any (p := p) (b := b) (by omega) HS4.out W h)
  have HPS := Aside0.mk (fun W => plSigns_any t (by omega) 1 1 W)
  have HB1 : Aside0 (Below w.heap.size w ((w.alloc (.cells #[.string (str p), .string (str b), .slice A ws.length c] 28)).alloc boxZ)) := ⟨((Below.refl _ w).alloc (Nat.le_refl _) _).alloc (by rw [al_size]; omega) _⟩
  have HX1 : Aside0 (((w.alloc (.cells #[.string (str p), .string (str b), .slice A ws.length c] 28)).alloc boxZ).heap[w.heap.size]? = some (boxS p b A ws.length c)) := ⟨al_old _ _ _ _ (al_new _ _ _ rfl)⟩
  have HY1 : Aside0 (((w.alloc (.cells #[.string (str p), .string (str b), .slice A ws.length c] 28)).alloc boxZ).heap[w.heap.size + 1]? = some boxZ) := ⟨al_new _ _ _ (by rw [al_size])⟩
  have HZ1 : Aside0 (w.heap.size + 2 ≤ ((w.alloc (.cells #[.string (str p), .string (str b), .slice A ws.length c] 28)).alloc boxZ).heap.size) := ⟨by rw [al_size, al_size]; exact Nat.le_refl _⟩
  have hu28 := Tryd.underlying28
  unfold BarPost
  clear s4 hT
  rcases okR_ways p b ws t with ⟨g1, g3, g4, g5, g6⟩ | ⟨g1, g2, g3, g4, g5, g6⟩ | ⟨g1, g2, gh, g3, g4, g5, g6⟩ | ⟨g1, g2, gh, g3, g4, g5, g6⟩
  · rw [g1] at HPG
    rw [g3, g4, g5, g6]
    clear g1 g3 g4 g5 g6
    go_enter Tryd.func19, Tryd.ntmps19
    go_wp2_with (go_at_call 47; refine (HPG.out _ (texts_below HT.out HB1.out)).mono ?_; rintro e w1 ⟨rfl, hb1⟩; have HB2 := Aside0.mk (HB1.out.trans (hb1.mono HB1.out.size)); have HX2 := Aside0.mk (below_box hb1 HX1.out); have HY2 := Aside0.mk (below_box hb1 HY1.out); have HZ2 := Aside0.mk (Nat.le_trans HZ1.out hb1.size); have q0 := blk_cell HY2.out 0; have q1 := blk_cell HY2.out 1; have q2 := blk_cell HY2.out 2; have f0 := blk_frozen HY2.out 0; have f1 := blk_frozen HY2.out 1; have f2 := blk_frozen HY2.out 2; have k0 := blk_cell HX2.out 0; have k1 := blk_cell HX2.out 1; have k2 := blk_cell HX2.out 2; clear hb1)
    obtain ⟨hy, hb⟩ := fill3 (W := w1) (v0 := .string ⟨#[]⟩) (v1 := .string ⟨#[]⟩) (v2 := .slice none 0 0) HY2.out (Nat.le_succ _) HB2.out
    refine bodyPost_ret (results_ct rfl _ _ (w.heap.size + 1) 28 #[.string ⟨#[]⟩, .string ⟨#[]⟩, .slice none 0 0] (0, 0) _ rfl hy Tryd.underlying28 rfl (by kernel_rfl)) rfl ?_
    exact ⟨none, 0, rfl, own_nil _ _, hb⟩
  · rw [g1] at HPG
    rw [g2] at HPS
    rw [g3, g4, g5, g6]
    clear g1 g2 g3 g4 g5 g6
    go_enter Tryd.func19, Tryd.ntmps19
    go_wp2_with (first | (go_at_call 47; refine (HPG.out _ (texts_below HT.out HB1.out)).mono ?_; rintro e w1 ⟨rfl, hb1⟩; have HB2 := Aside0.mk (HB1.out.trans (hb1.mono HB1.out.size)); have HX2 := Aside0.mk (below_box hb1 HX1.out); have HY2 := Aside0.mk (below_box hb1 HY1.out); have HZ2 := Aside0.mk (Nat.le_trans HZ1.out hb1.size); have q0 := blk_cell HY2.out 0; have q1 := blk_cell HY2.out 1; have q2 := blk_cell HY2.out 2; have f0 := blk_frozen HY2.out 0; have f1 := blk_frozen HY2.out 1; have f2 := blk_frozen HY2.out 2; have k0 := blk_cell HX2.out 0; have k1 := blk_cell HX2.out 1; have k2 := blk_cell HX2.out 2; clear hb1) | (go_at_call 48; refine (HPS.out _).mono ?_; rintro e w' ⟨rfl, ⟨nd, rfl⟩⟩))
    obtain ⟨hy, hb⟩ := fill3 (W := w1.drewN nd) (v0 := .string ⟨#[]⟩) (v1 := .string ⟨#[]⟩) (v2 := .slice none 0 0) HY2.out (Nat.le_succ _) (pw_below_drewN HB2.out _)
    refine bodyPost_ret (results_ct rfl _ _ (w.heap.size + 1) 28 #[.string ⟨#[]⟩, .string ⟨#[]⟩, .slice none 0 0] (0, 0) _ rfl hy Tryd.underlying28 rfl (by kernel_rfl)) rfl ?_
    exact ⟨none, 0, rfl, own_nil _ _, hb⟩
  · obtain ⟨x, rfl, hx⟩ := some_one g2
    have HHA := Aside0.mk (fun W => plHas_any b [x] (by omega) (by simp) W)
    rw [gh] at HHA
    rw [g1] at HPG
    rw [g2] at HPS
    rw [g3, g4, g5, g6]
    clear g1 g2 g3 g4 g5 g6 gh hx
    go_enter Tryd.func19, Tryd.ntmps19
    go_wp2_with (first | (go_at_call 47; refine (HPG.out _ (texts_below HT.out HB1.out)).mono ?_; rintro e w1 ⟨rfl, hb1⟩; have HB2 := Aside0.mk (HB1.out.trans (hb1.mono HB1.out.size)); have HX2 := Aside0.mk (below_box hb1 HX1.out); have HY2 := Aside0.mk (below_box hb1 HY1.out); have HZ2 := Aside0.mk (Nat.le_trans HZ1.out hb1.size); have q0 := blk_cell HY2.out 0; have q1 := blk_cell HY2.out 1; have q2 := blk_cell HY2.out 2; have f0 := blk_frozen HY2.out 0; have f1 := blk_frozen HY2.out 1; have f2 := blk_frozen HY2.out 2; have k0 := blk_cell HX2.out 0; have k1 := blk_cell HX2.out 1; have k2 := blk_cell HX2.out 2; clear hb1) | (go_at_call 48; refine (HPS.out _).mono ?_; rintro e w' ⟨rfl, ⟨nd, rfl⟩⟩) | (go_at_call 49; refine (HHA.out _).mono ?_; rintro e w' ⟨rfl, ⟨nd2, rfl⟩⟩))
    obtain ⟨hy, hb⟩ := fill3 (W := w1.drewN (nd + nd2)) (v0 := .string ⟨#[]⟩) (v1 := .string ⟨#[]⟩) (v2 := .slice none 0 0) HY2.out (Nat.le_succ _) (pw_below_drewN HB2.out _)
    refine bodyPost_ret (results_ct rfl _ _ (w.heap.size + 1) 28 #[.string ⟨#[]⟩, .string ⟨#[]⟩, .slice none 0 0] (0, 0) _ rfl hy Tryd.underlying28 rfl (by kernel_rfl)) rfl ?_
    exact ⟨none, 0, rfl, own_nil _ _, hb⟩
  · obtain ⟨x, rfl, hx⟩ := some_one g2
    have HHA := Aside0.mk (fun W => plHas_any b [x] (by omega) (by simp) W)
    rw [gh] at HHA
    rw [g1] at HPG
    rw [g2] at HPS
    rw [g3, g4, g5, g6]
    rw [show ([x] : T).headD 0 = x from rfl]
    have HPB := Aside0.mk (fun W (h : Texts W A c ws) => plBar_any (good_of2 g1) x (by rw [hasB_one] at gh; exact of_decide_eq_false gh) W h)
    generalize withX b x = bx at HPB ⊢
    clear g1 g2 g3 g4 g5 g6 gh hx
    go_enter Tryd.func19, Tryd.ntmps19
    go_wp2_with (first | (go_at_call 50; refine (HPB.out _ (texts_below HT.out (pw_below_drewN HB2.out _))).mono ?_; rintro e w5 ⟨A5, c5, rfl, ho5, hb5⟩; have HO5 := Aside0.mk ho5; have HB5 := Aside0.mk ((pw_below_drewN HB2.out (nd + nd2)).trans (hb5.mono (pw_below_drewN HB2.out (nd + nd2)).size)); have HY5 : Aside0 (w5.heap[w.heap.size + 1]? = some boxZ) := ⟨below_box hb5 HY2.out⟩; clear q0 q1 q2 f0 f1 f2 k0 k1 k2 ho5 hb5; have q0 := blk_cell HY5.out 0; have q1 := blk_cell HY5.out 1; have q2 := blk_cell HY5.out 2; have f0 := blk_frozen HY5.out 0; have f1 := blk_frozen HY5.out 1; have f2 := blk_frozen HY5.out 2) | (go_at_call 47; refine (HPG.out _ (texts_below HT.out HB1.out)).mono ?_; rintro e w1 ⟨rfl, hb1⟩; have HB2 := Aside0.mk (HB1.out.trans (hb1.mono HB1.out.size)); have HX2 := Aside0.mk (below_box hb1 HX1.out); have HY2 := Aside0.mk (below_box hb1 HY1.out); have HZ2 := Aside0.mk (Nat.le_trans HZ1.out hb1.size); have q0 := blk_cell HY2.out 0; have q1 := blk_cell HY2.out 1; have q2 := blk_cell HY2.out 2; have f0 := blk_frozen HY2.out 0; have f1 := blk_frozen HY2.out 1; have f2 := blk_frozen HY2.out 2; have k0 := blk_cell HX2.out 0; have k1 := blk_cell HX2.out 1; have k2 := blk_cell HX2.out 2; clear hb1) | (go_at_call 48; refine (HPS.out _).mono ?_; rintro e w' ⟨rfl, ⟨nd, rfl⟩⟩) | (go_at_call 49; refine (HHA.out _).mono ?_; rintro e w' ⟨rfl, ⟨nd2, rfl⟩⟩))
    obtain ⟨hy, hb⟩ := fill3 (W := w5) (v0 := .string (str p)) (v1 := .string (str bx)) (v2 := .slice A5 ws.length c5) HY5.out (Nat.le_succ _) HB5.out
    refine bodyPost_ret (results_ct rfl _ _ (w.heap.size + 1) 28 #[.string (str p), .string (str bx), .slice A5 ws.length c5] (0, 0) _ rfl hy Tryd.underlying28 rfl (by kernel_rfl)) rfl ?_
    exact ⟨A5, c5, rfl, Kd.R_lower (HO5.out.fill (show w.heap.size + 1 < w1.heap.size from HZ2.out)) (show w.heap.size ≤ w1.heap.size by have := HZ2.out; omega), hb⟩

set_option maxRecDepth 100000 in
set_option maxHeartbeats 4000000 in
theorem implBar_any {p b : T} {ws : List T} {A : Option Addr} {c : Nat} (hs : Small2 p b ws) (t : T) (ht : t.length ≤ 1048576) (hA : ∀ ad, A = some ad → ad.spot = none) (w : World) (hT : Texts w A c ws) :
    Calls Tryd.prog 20 #[.agg #[.string (str p), .string (str b), .slice A ws.length c], .string (str t)] w (BarPost p b ws t w) := by
  obtain ⟨s1, s2, s3, s4⟩ := hs
  have HS4 : Aside0 (∀ x ∈ ws, x.length ≤ 4000000) := ⟨fun x hx => by have := s4 x hx; omega⟩
  have HT := Aside0.mk hT
  have HPG := Aside0.mk (fun W (h : Texts W A c ws) => isScheme_any (p := p) (b := b) (by omega) (by omega) (by omega) HS4.out W h)
  have HPS := Aside0.mk (fun W => areSigns_any t (by omega) 1 1 W)
  have HB1 : Aside0 (Below w.heap.size w ((w.alloc (.cells #[.string (str p), .string (str b), .slice A ws.length c] 28)).alloc boxZ)) := ⟨((Below.refl _ w).alloc (Nat.le_refl _) _).alloc (by rw [al_size]; omega) _⟩
  have HX1 : Aside0 (((w.alloc (.cells #[.string (str p), .string (str b), .slice A ws.length c] 28)).alloc boxZ).heap[w.heap.size]? = some (boxS p b A ws.length c)) := ⟨al_old _ _ _ _ (al_new _ _ _ rfl)⟩
  have HY1 : Aside0 (((w.alloc (.cells #[.string (str p), .string (str b), .slice A ws.length c] 28)).alloc boxZ).heap[w.heap.size + 1]? = some boxZ) := ⟨al_new _ _ _ (by rw [al_size])⟩
  have HZ1 : Aside0 (w.heap.size + 2 ≤ ((w.alloc (.cells #[.string (str p), .string (str b), .slice A ws.length c] 28)).alloc boxZ).heap.size) := ⟨by rw [al_size, al_size]; exact Nat.le_refl _⟩
  have hu28 := Tryd.underlying28
  unfold BarPost
  clear s4 hT
  rcases okR_ways p b ws t with ⟨g1, g3, g4, g5, g6⟩ | ⟨g1, g2, g3, g4, g5, g6⟩ | ⟨g1, g2, gh, g3, g4, g5, g6⟩ | ⟨g1, g2, gh, g3, g4, g5, g6⟩
  · rw [g1] at HPG
    rw [g3, g4, g5, g6]
    clear g1 g3 g4 g5 g6 hA
    go_enter Tryd.func20, Tryd.ntmps20
    go_wp2_with (go_at_call 51; refine (HPG.out _ (texts_below HT.out HB1.out)).mono ?_; rintro e w1 ⟨rfl, hb1⟩; have HB2 := Aside0.mk (HB1.out.trans (hb1.mono HB1.out.size)); have HX2 := Aside0.mk (below_box hb1 HX1.out); have HY2 := Aside0.mk (below_box hb1 HY1.out); have HZ2 := Aside0.mk (Nat.le_trans HZ1.out hb1.size); have q0 := blk_cell HY2.out 0; have q1 := blk_cell HY2.out 1; have q2 := blk_cell HY2.out 2; have f0 := blk_frozen HY2.out 0; have f1 := blk_frozen HY2.out 1; have f2 := blk_frozen HY2.out 2; have k0 := blk_cell HX2.out 0; have k1 := blk_cell HX2.out 1; have k2 := blk_cell HX2.out 2; clear hb1)
    obtain ⟨hy, hb⟩ := fill3 (W := w1) (v0 := .string ⟨#[]⟩) (v1 := .string ⟨#[]⟩) (v2 := .slice none 0 0) HY2.out (Nat.le_succ _) HB2.out
    refine bodyPost_ret (results_ct rfl _ _ (w.heap.size + 1) 28 #[.string ⟨#[]⟩, .string ⟨#[]⟩, .slice none 0 0] (0, 0) _ rfl hy Tryd.underlying28 rfl (by kernel_rfl)) rfl ?_
    exact ⟨none, 0, rfl, own_nil _ _, hb⟩
  · rw [g1] at HPG
    rw [g2] at HPS
    rw [g3, g4, g5, g6]
    clear g1 g2 g3 g4 g5 g6 hA
    go_enter Tryd.func20, Tryd.ntmps20
    go_wp2_with (first | (go_at_call 51; refine (HPG.out _ (texts_below HT.out HB1.out)).mono ?_; rintro e w1 ⟨rfl, hb1⟩; have HB2 := Aside0.mk (HB1.out.trans (hb1.mono HB1.out.size)); have HX2 := Aside0.mk (below_box hb1 HX1.out); have HY2 := Aside0.mk (below_box hb1 HY1.out); have HZ2 := Aside0.mk (Nat.le_trans HZ1.out hb1.size); have q0 := blk_cell HY2.out 0; have q1 := blk_cell HY2.out 1; have q2 := blk_cell HY2.out 2; have f0 := blk_frozen HY2.out 0; have f1 := blk_frozen HY2.out 1; have f2 := blk_frozen HY2.out 2; have k0 := blk_cell HX2.out 0; have k1 := blk_cell HX2.out 1; have k2 := blk_cell HX2.out 2; clear hb1) | (go_at_call 52; refine (HPS.out _).mono ?_; rintro e w' ⟨rfl, ⟨nd, rfl⟩⟩))
    obtain ⟨hy, hb⟩ := fill3 (W := w1.drewN nd) (v0 := .string ⟨#[]⟩) (v1 := .string ⟨#[]⟩) (v2 := .slice none 0 0) HY2.out (Nat.le_succ _) (pw_below_drewN HB2.out _)
    refine bodyPost_ret (results_ct rfl _ _ (w.heap.size + 1) 28 #[.string ⟨#[]⟩, .string ⟨#[]⟩, .slice none 0 0] (0, 0) _ rfl hy Tryd.underlying28 rfl (by kernel_rfl)) rfl ?_
    exact ⟨none, 0, rfl, own_nil _ _, hb⟩
  · obtain ⟨x, rfl, hx⟩ := some_one g2
    have HHA : Aside0 (∀ W : World, Calls Tryd.prog 53 #[.string (str b), .string (str [x])] W fun e w' => e = .returned (.bool (hasB b [x])) ∧ w' = W) := ⟨fun W => by
      have h := Tryd.strings_Contains_one (str b) x W
      rw [hasB_one]
      rwa [show (str b).data.toList = b from rfl, decide_eq_decide.2 (idx_mem b x)] at h⟩
    rw [gh] at HHA
    rw [g1] at HPG
    rw [g2] at HPS
    rw [g3, g4, g5, g6]
    clear g1 g2 g3 g4 g5 g6 gh hx hA
    go_enter Tryd.func20, Tryd.ntmps20
    go_wp2_with (first | (go_at_call 51; refine (HPG.out _ (texts_below HT.out HB1.out)).mono ?_; rintro e w1 ⟨rfl, hb1⟩; have HB2 := Aside0.mk (HB1.out.trans (hb1.mono HB1.out.size)); have HX2 := Aside0.mk (below_box hb1 HX1.out); have HY2 := Aside0.mk (below_box hb1 HY1.out); have HZ2 := Aside0.mk (Nat.le_trans HZ1.out hb1.size); have q0 := blk_cell HY2.out 0; have q1 := blk_cell HY2.out 1; have q2 := blk_cell HY2.out 2; have f0 := blk_frozen HY2.out 0; have f1 := blk_frozen HY2.out 1; have f2 := blk_frozen HY2.out 2; have k0 := blk_cell HX2.out 0; have k1 := blk_cell HX2.out 1; have k2 := blk_cell HX2.out 2; clear hb1) | (go_at_call 52; refine (HPS.out _).mono ?_; rintro e w' ⟨rfl, ⟨nd, rfl⟩⟩) | (go_at_call 53; refine (HHA.out _).mono ?_; rintro e w' ⟨rfl, rfl⟩))
    obtain ⟨hy, hb⟩ := fill3 (W := w1.drewN nd) (v0 := .string ⟨#[]⟩) (v1 := .string ⟨#[]⟩) (v2 := .slice none 0 0) HY2.out (Nat.le_succ _) (pw_below_drewN HB2.out _)
    refine bodyPost_ret (results_ct rfl _ _ (w.heap.size + 1) 28 #[.string ⟨#[]⟩, .string ⟨#[]⟩, .slice none 0 0] (0, 0) _ rfl hy Tryd.underlying28 rfl (by kernel_rfl)) rfl ?_
    exact ⟨none, 0, rfl, own_nil _ _, hb⟩
  · obtain ⟨x, rfl, hx⟩ := some_one g2
    have HHA : Aside0 (∀ W : World, Calls Tryd.prog 53 #[.string (str b), .string (str [x])] W fun e w' => e = .returned (.bool (hasB b [x])) ∧ w' = W) := ⟨fun W => by
      have h := Tryd.strings_Contains_one (str b) x W
      rw [hasB_one]
      rwa [show (str b).data.toList = b from rfl, decide_eq_decide.2 (idx_mem b x)] at h⟩
    rw [gh] at HHA
    rw [g1] at HPG
    rw [g2] at HPS
    rw [g3, g4, g5, g6]
    rw [show ([x] : T).headD 0 = x from rfl]
    have HPB := Aside0.mk (fun W (h : Texts W A c ws) => barred_any (good_of2 g1) x hA W h)
    generalize withX b x = bx at HPB ⊢
    clear g1 g2 g3 g4 g5 g6 gh hx hA
    go_enter Tryd.func20, Tryd.ntmps20
    go_wp2_with (first | (go_at_call 54; refine (HPB.out _ (texts_below HT.out (pw_below_drewN HB2.out _))).mono ?_; rintro e w5 ⟨A5, c5, rfl, ho5, hb5⟩; have HO5 := Aside0.mk ho5; have HB5 := Aside0.mk ((pw_below_drewN HB2.out nd).trans (hb5.mono (pw_below_drewN HB2.out nd).size)); have HY5 : Aside0 (w5.heap[w.heap.size + 1]? = some boxZ) := ⟨below_box hb5 HY2.out⟩; clear q0 q1 q2 f0 f1 f2 k0 k1 k2 ho5 hb5; have q0 := blk_cell HY5.out 0; have q1 := blk_cell HY5.out 1; have q2 := blk_cell HY5.out 2; have f0 := blk_frozen HY5.out 0; have f1 := blk_frozen HY5.out 1; have f2 := blk_frozen HY5.out 2) | (go_at_call 51; refine (HPG.out _ (texts_below HT.out HB1.out)).mono ?_; rintro e w1 ⟨rfl, hb1⟩; have HB2 := Aside0.mk (HB1.out.trans (hb1.mono HB1.out.size)); have HX2 := Aside0.mk (below_box hb1 HX1.out); have HY2 := Aside0.mk (below_box hb1 HY1.out); have HZ2 := Aside0.mk (Nat.le_trans HZ1.out hb1.size); have q0 := blk_cell HY2.out 0; have q1 := blk_cell HY2.out 1; have q2 := blk_cell HY2.out 2; have f0 := blk_frozen HY2.out 0; have f1 := blk_frozen HY2.out 1; have f2 := blk_frozen HY2.out 2; have k0 := blk_cell HX2.out 0; have k1 := blk_cell HX2.out 1; have k2 := blk_cell HX2.out 2; clear hb1) | (go_at_call 52; refine (HPS.out _).mono ?_; rintro e w' ⟨rfl, ⟨nd, rfl⟩⟩) | (go_at_call 53; refine (HHA.out _).mono ?_; rintro e w' ⟨rfl, rfl⟩))
    obtain ⟨hy, hb⟩ := fill3 (W := w5) (v0 := .string (str p)) (v1 := .string (str bx)) (v2 := .slice A5 ws.length c5) HY5.out (Nat.le_succ _) HB5.out
    refine bodyPost_ret (results_ct rfl _ _ (w.heap.size + 1) 28 #[.string (str p), .string (str bx), .slice A5 ws.length c5] (0, 0) _ rfl hy Tryd.underlying28 rfl (by kernel_rfl)) rfl ?_
    exact ⟨A5, c5, rfl, Kd.R_lower (HO5.out.fill (show w.heap.size + 1 < w1.heap.size from HZ2.out)) (show w.heap.size ≤ w1.heap.size by have := HZ2.out; omega), hb⟩
end Go.Proofs.YtoieadofldkccaaDoor.Plates
