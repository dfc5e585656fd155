/-
  Plates: both sides tell alike whether a text is a plate.
-/
import Derived.Test.YtoieadofldkccaaDoorHPRank
namespace Go.Proofs.YtoieadofldkccaaDoor.Plates
open Go.RowKit Go.Proofs.YtoieadofldkccaaDoorW.PrintWords Go.Proofs.YtoieadofldkccaaDoorW.PrintLast Go.Proofs.YtoieadofldkccaaDoorW.PrintMore Go.Proofs.YtoieadofldkccaaDoor.PFnExactCountBeginning
open PFake (ML ml_below)
set_option linter.unusedVariables false
set_option linter.unusedSimpArgs false

/-- the box of a scheme -/
theorem box3_cells {W : World} {B t : Nat} {p b : T} {A : Option Addr} {n c : Nat} (h : W.heap[B]? = some (.cells #[.string (str p), .string (str b), .slice A n c] t (0, 0))) :
    W.cell? ⟨B, 0, none⟩ = some (.string (str p)) ∧ W.cell? ⟨B, 1, none⟩ = some (.string (str b)) ∧ W.cell? ⟨B, 2, none⟩ = some (.slice A n c) :=
  ⟨(Go.Joins.cell_of_block h 0).trans rfl, (Go.Joins.cell_of_block h 1).trans rfl, (Go.Joins.cell_of_block h 2).trans rfl⟩

/-- a text is a plate of a scheme -/
def Is (p b : T) (ws : List T) (t : T) : Prop := t.length = p.length ∧ Fits p b t ∧ Clean ws t
open Classical in
noncomputable def isB (p b : T) (ws : List T) (t : T) : Bool := decide (Is p b ws t)
open Classical in
theorem isB_true {p b : T} {ws : List T} {t : T} (h : Is p b ws t) : isB p b ws t = true := by unfold isB; exact decide_eq_true h
open Classical in
theorem isB_false {p b : T} {ws : List T} {t : T} (h : ¬ Is p b ws t) : isB p b ws t = false := by unfold isB; exact decide_eq_false h
open Classical in
theorem is_of {p b : T} {ws : List T} {t : T} (h : isB p b ws t = true) : Is p b ws t := by unfold isB at h; exact of_decide_eq_true h

theorem allowed_more (p b : T) (l0 : List ByteArray) (i : Nat) (hi : i < p.length) : ∀ r, PFake.impl_Scheme_allowed.f (100 + r) (str p) (str b) l0 i = some (nums (allowedL b p[i])) := by
  intro r
  induction r with
  | zero => exact allowed_eq p b l0 i hi
  | succ r ih => exact PFake.impl_Scheme_allowed.mono _ _ _ _ (100 + r) _ ih
theorem words_more (p b : ByteArray) (ws : List T) (t : T) (out : List Int) (h : PFake.impl_Scheme_wordsIn.f (ws.length + 1) p b (ws.map str) (str t) = some out) : ∀ r, PFake.impl_Scheme_wordsIn.f (ws.length + 1 + r) p b (ws.map str) (str t) = some out := by
  intro r
  induction r with
  | zero => exact h
  | succ r ih => exact PFake.impl_Scheme_wordsIn.mono _ _ _ _ (ws.length + 1 + r) _ ih

theorem ix_same : ∀ k a b c d, PFake.slices_Index_byte_byte.l0 k a b c d = slices_Index_byte_byte.l0 k a b c d := by
  intro k
  induction k with
  | zero => intros; rfl
  | succ k ih => intros; rw [PFake.slices_Index_byte_byte.l0, slices_Index_byte_byte.l0]; simp only [ih]
theorem contains_same (k : Nat) (l : List Int) (x : Int) : PFake.slices_Contains_byte_byte.f k l x = slices_Contains_byte_byte.f k l x := by
  unfold PFake.slices_Contains_byte_byte.f slices_Contains_byte_byte.f PFake.slices_Index_byte_byte.f slices_Index_byte_byte.f
  rw [ix_same]

theorem isPlate_l0 (p b : T) (ws : List T) (t : T) (ht : t.length = p.length) (hl : t.length ≤ 4000000) (hw : ws.length ≤ 4000000) : ∀ (r i k : Nat), i + r = t.length → r + 4000200 < k → (∀ j (h : j < t.length) (h2 : j < p.length), j < i → t[j] ∈ allowedL b p[j]) →
    PFake.impl_Scheme_isPlate.l0 k (str t) t.length i (str p) (str b) (ws.map str) = some (isB p b ws t) := by
  intro r
  induction r with
  | zero =>
    intro i k hi hk hn
    obtain ⟨k, rfl⟩ : ∃ m, k = m + 1 := ⟨k - 1, by omega⟩
    rw [PFake.impl_Scheme_isPlate.l0, if_neg (by omega)]
    obtain ⟨out, e, ho⟩ := wordsIn_eq (str p) (str b) ws t hl hw
    have e2 := words_more (str p) (str b) ws t out e (k - (ws.length + 1))
    rw [show ws.length + 1 + (k - (ws.length + 1)) = k from by omega] at e2
    rw [e2, Option.bind_some]
    congr 1
    by_cases hc : Clean ws t
    · rw [ho.2 hc, isB_true ⟨ht, ⟨by omega, fun j h h2 => hn j h h2 (by omega)⟩, hc⟩]; rfl
    · rw [isB_false (fun h => hc h.2.2)]
      have : out ≠ [] := fun h => hc (ho.1 h)
      rw [beq_eq_false_iff_ne]
      have := List.length_pos_iff.2 this
      omega
  | succ r ih =>
    intro i k hi hk hn
    obtain ⟨k, rfl⟩ : ∃ m, k = m + 1 := ⟨k - 1, by omega⟩
    have hip : i < p.length := by omega
    have hit : i < t.length := by omega
    have e1 := allowed_more p b (ws.map str) i hip (k - 100)
    rw [show 100 + (k - 100) = k from by omega] at e1
    rw [PFake.impl_Scheme_isPlate.l0, if_pos (by omega), e1, Option.bind_some, if_pos (by omega), str_size, if_pos (by omega), bt_str t i hit]
    have hal := allowed_length b p[i]
    have e2 : PFake.slices_Contains_byte_byte.f k (nums (allowedL b p[i])) (t[i].toNat : Int) = some (decide (t[i] ∈ allowedL b p[i])) := (contains_same _ _ _).trans (contains_eq (allowedL b p[i]) t[i] (by omega) k (by omega))
    rw [e2, Option.bind_some]
    by_cases hc : t[i] ∈ allowedL b p[i]
    · rw [decide_eq_true hc, if_pos rfl, wi (by omega) (by omega)]
      exact ih (i + 1) k (by omega) (by omega) (fun j h h2 h3 => by
        by_cases e : j = i
        · subst e; exact hc
        · exact hn j h h2 (by omega))
    · rw [decide_eq_false hc, if_neg (by simp), isB_false (fun h => hc (h.2.1.2 i hit hip))]

theorem isPlate_any {p b : T} {ws : List T} {A : Option Addr} {c : Nat} (hp : p.length ≤ 4000000) (t : T) (hl : ws.length ≤ 4000000) (w : World) (hT : Texts w A c ws) (hM : ML w) :
    Calls Tryd.prog 89 #[.agg #[.string (str p), .string (str b), .slice A ws.length c], .string (str t)] w fun e w' => e = .returned (.bool (isB p b ws t)) ∧ Below w.heap.size w w' := by
  have e : PFake.impl_Scheme_isPlate.f 9000000 (str p) (str b) (ws.map str) (str t) = some (isB p b ws t) := by
    unfold PFake.impl_Scheme_isPlate.f
    rw [str_size, str_size]
    by_cases h : t.length = p.length
    · rw [if_pos (by omega)]
      exact isPlate_l0 p b ws t h (by omega) hl t.length 0 9000000 (by omega) (by omega) (fun j _ _ h => by omega)
    · rw [if_neg (by omega), isB_false (fun g => h g.1)]
  have h := PFake.impl_Scheme_isPlate.calls 9000000 (str p) (str b) A c (ws.map str) (str t) _ w hM hT.1 hT.2 e
  rwa [List.length_map] at h

set_option maxRecDepth 100000 in
set_option maxHeartbeats 4000000 in
theorem isPlateOf_any {p b : T} {ws : List T} {A : Option Addr} {c : Nat} (hp : p.length ≤ 4000000) (hb : b.length ≤ 4000000) (hl : ws.length ≤ 4000000) (hw : ∀ x ∈ ws, x.length ≤ 4000000) (t : T) (w : World) (hT : Texts w A c ws) (hM : ML w) :
    Calls Tryd.prog 63 #[.agg #[.string (str p), .string (str b), .slice A ws.length c], .string (str t)] w fun e w' => e = .returned (.bool (goodB p b ws && isB p b ws t)) ∧ Below w.heap.size w w' := by
  have HIS := Aside0.mk (fun W (h : Texts W A c ws) => isScheme_any hp hb hl hw W h)
  have HPL := Aside0.mk (fun W (h : Texts W A c ws) (g : ML W) => isPlate_any (b := b) hp t hl W h g)
  have HT := Aside0.mk hT
  have HM := Aside0.mk hM
  have hB1 : Aside0 (Below w.heap.size w (w.alloc (.cells #[.string (str p), .string (str b), .slice A ws.length c] 28))) := ⟨(Below.refl _ w).alloc (Nat.le_refl _) _⟩
  have HX1 : Aside0 ((w.alloc (.cells #[.string (str p), .string (str b), .slice A ws.length c] 28)).heap[w.heap.size]? = some (.cells #[.string (str p), .string (str b), .slice A ws.length c] 28 (0, 0))) := ⟨al_new _ _ _ rfl⟩
  clear hT hM
  generalize isB p b ws t = ib at HPL ⊢
  cases hg : goodB p b ws with
  | false =>
    rw [hg] at HIS
    clear hg
    simp only [Bool.false_and]
    go_enter Tryd.func63, Tryd.ntmps63
    go_wp2_with (go_at_call 51; refine (HIS.out _ (texts_below HT.out hB1.out)).mono ?_; rintro e w1 ⟨rfl, hb1⟩; have HB1 := Aside0.mk (hB1.out.trans (hb1.mono hB1.out.size)); clear hb1)
    go_ret
    exact ⟨rfl, HB1.out⟩
  | true =>
    rw [hg] at HIS
    clear hg
    simp only [Bool.true_and]
    go_enter Tryd.func63, Tryd.ntmps63
    go_wp2_with (first | (go_at_call 51; refine (HIS.out _ (texts_below HT.out hB1.out)).mono ?_; rintro e w1 ⟨rfl, hb1⟩; have HB1 := Aside0.mk (hB1.out.trans (hb1.mono hB1.out.size)); obtain ⟨k0, k1, k2⟩ := box3_cells (below_box hb1 HX1.out); clear hb1) | (go_at_call 89; refine (HPL.out _ (texts_below HT.out HB1.out) (ml_below HM.out HB1.out)).mono ?_; rintro e w2 ⟨rfl, hb2⟩; have HB2 := Aside0.mk (HB1.out.trans (hb2.mono HB1.out.size)); clear hb2))
    go_ret
    exact ⟨rfl, HB2.out⟩

set_option maxRecDepth 100000 in
set_option maxHeartbeats 4000000 in
theorem plIs_any {p b : T} {ws : List T} {A : Option Addr} {c : Nat} (hp : p.length ≤ 4000000) (hb : b.length ≤ 4000000) (hl : ws.length ≤ 4000000) (hw : ∀ x ∈ ws, x.length ≤ 4000000) (t : T) (ht : t.length ≤ 4000000) (w : World) (hT : Texts w A c ws) :
    Calls Tryd.prog 66 #[.agg #[.string (str p), .string (str b), .slice A ws.length c], .string (str t)] w fun e w' => e = .returned (.bool (isB p b ws t)) ∧ Below w.heap.size w w' := by
  have hsp := str_size p
  have hst := str_size t
  have HFI := Aside0.mk (fun W => plFits_any (A := A) (c := c) (ws := ws) (b := b) t ht (p := p) hp hb W)
  have HCL := Aside0.mk (fun W (h : Texts W A c ws) => plClean_any (p := p) (b := b) t ht hw hl W h)
  have HT := Aside0.mk hT
  have hB1 : Aside0 (Below w.heap.size w (w.alloc (.cells #[.string (str p), .string (str b), .slice A ws.length c] 28))) := ⟨(Below.refl _ w).alloc (Nat.le_refl _) _⟩
  have HX1 : Aside0 ((w.alloc (.cells #[.string (str p), .string (str b), .slice A ws.length c] 28)).heap[w.heap.size]? = some (.cells #[.string (str p), .string (str b), .slice A ws.length c] 28 (0, 0))) := ⟨al_new _ _ _ rfl⟩
  clear hT hw
  by_cases h1 : t.length = p.length
  case neg =>
    rw [isB_false (fun g => h1 g.1)]
    have hq : (((t.length : Nat) : Int) == (p.length : Int)) = false := by rw [beq_eq_false_iff_ne]; omega
    go_enter Tryd.func66, Tryd.ntmps66
    go_wp2
    go_ret
    exact ⟨rfl, hB1.out⟩
  have hq : (((t.length : Nat) : Int) == (p.length : Int)) = true := by rw [beq_iff_eq]; omega
  by_cases h2 : Fits p b t
  case neg =>
    rw [isB_false (fun g => h2 g.2.1)]
    rw [fitsB_false h2] at HFI
    clear h2
    go_enter Tryd.func66, Tryd.ntmps66
    go_wp2_with (go_at_call 80; refine (HFI.out _).mono ?_; rintro e w1 ⟨rfl, hb1⟩; have HB1 := Aside0.mk (hB1.out.trans (hb1.mono hB1.out.size)); clear hb1)
    go_ret
    exact ⟨rfl, HB1.out⟩
  rw [fitsB_true h2] at HFI
  have hv : isB p b ws t = cleanB ws t := by
    by_cases h3 : Clean ws t
    · rw [isB_true ⟨h1, h2, h3⟩, cleanB_true h3]
    · rw [isB_false (fun g => h3 g.2.2), cleanB_false h3]
  rw [hv]
  clear hv h2
  generalize cleanB ws t = cb at HCL ⊢
  go_enter Tryd.func66, Tryd.ntmps66
  go_wp2_with (first | (go_at_call 80; refine (HFI.out _).mono ?_; rintro e w1 ⟨rfl, hb1⟩; have HB1 := Aside0.mk (hB1.out.trans (hb1.mono hB1.out.size)); obtain ⟨k0, k1, k2⟩ := box3_cells (below_box hb1 HX1.out); clear hb1) | (go_at_call 81; refine (HCL.out _ (texts_below HT.out HB1.out)).mono ?_; rintro e w2 ⟨rfl, hb2⟩; have HB2 := Aside0.mk (HB1.out.trans (hb2.mono HB1.out.size)); clear hb2))
  go_ret
  exact ⟨rfl, HB2.out⟩

set_option maxRecDepth 100000 in
set_option maxHeartbeats 4000000 in
theorem plBoth_any {p b : T} {ws : List T} {A : Option Addr} {c : Nat} (hp : p.length ≤ 4000000) (hb : b.length ≤ 4000000) (hl : ws.length ≤ 4000000) (hw : ∀ x ∈ ws, x.length ≤ 4000000) (t : T) (ht : t.length ≤ 4000000) (w : World) (hT : Texts w A c ws) :
    Calls Tryd.prog 42 #[.agg #[.string (str p), .string (str b), .slice A ws.length c], .string (str t)] w fun e w' => e = .returned (.bool (goodB p b ws && isB p b ws t)) ∧ Below w.heap.size w w' := by
  have HIS := Aside0.mk (fun W (h : Texts W A c ws) => plGood_any (p := p) (b := b) hb hw W h)
  have HPL := Aside0.mk (fun W (h : Texts W A c ws) => plIs_any (b := b) hp hb hl hw t ht W h)
  have HT := Aside0.mk hT
  have hB1 : Aside0 (Below w.heap.size w (w.alloc (.cells #[.string (str p), .string (str b), .slice A ws.length c] 28))) := ⟨(Below.refl _ w).alloc (Nat.le_refl _) _⟩
  have HX1 : Aside0 ((w.alloc (.cells #[.string (str p), .string (str b), .slice A ws.length c] 28)).heap[w.heap.size]? = some (.cells #[.string (str p), .string (str b), .slice A ws.length c] 28 (0, 0))) := ⟨al_new _ _ _ rfl⟩
  clear hT hw
  generalize isB p b ws t = ib at HPL ⊢
  cases hg : goodB p b ws with
  | false =>
    rw [hg] at HIS
    clear hg
    simp only [Bool.false_and]
    go_enter Tryd.func42, Tryd.ntmps42
    go_wp2_with (go_at_call 47; refine (HIS.out _ (texts_below HT.out hB1.out)).mono ?_; rintro e w1 ⟨rfl, hb1⟩; have HB1 := Aside0.mk (hB1.out.trans (hb1.mono hB1.out.size)); clear hb1)
    go_ret
    exact ⟨rfl, HB1.out⟩
  | true =>
    rw [hg] at HIS
    clear hg
    simp only [Bool.true_and]
    go_enter Tryd.func42, Tryd.ntmps42
    go_wp2_with (first | (go_at_call 47; refine (HIS.out _ (texts_below HT.out hB1.out)).mono ?_; rintro e w1 ⟨rfl, hb1⟩; have HB1 := Aside0.mk (hB1.out.trans (hb1.mono hB1.out.size)); obtain ⟨k0, k1, k2⟩ := box3_cells (below_box hb1 HX1.out); clear hb1) | (go_at_call 66; refine (HPL.out _ (texts_below HT.out HB1.out)).mono ?_; rintro e w2 ⟨rfl, hb2⟩; have HB2 := Aside0.mk (HB1.out.trans (hb2.mono HB1.out.size)); clear hb2))
    go_ret
    exact ⟨rfl, HB2.out⟩
end Go.Proofs.YtoieadofldkccaaDoor.Plates
