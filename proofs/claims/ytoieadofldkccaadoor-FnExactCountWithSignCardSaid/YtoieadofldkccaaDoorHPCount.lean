/-
  Plates: counter.from counts the ways to go on.
-/
import Derived.Test.YtoieadofldkccaaDoorHPMemo
import Derived.Laws.IdiomStrings
namespace Go.Proofs.YtoieadofldkccaaDoor.Plates
open Go.RowKit Go.Proofs.YtoieadofldkccaaDoorW.PrintWords Go.Proofs.YtoieadofldkccaaDoorW.PrintLast Go.Proofs.YtoieadofldkccaaDoorW.PrintMore Go.Proofs.YtoieadofldkccaaDoor.PFnExactCountBeginning
open PFake (ML ml_below)
set_option linter.unusedVariables false
set_option linter.unusedSimpArgs false

theorem conv_one (x : UInt8) (v : Int) (hv : v = (x.toNat : Int)) (W : World) : (convert 71 9 (.slice (some ⟨W.heap.size, 0, none⟩) 1 1)).run Tryd.prog (W.alloc (.cells #[.int .u8 v] 5)) = .ok (.string (str [x])) (W.alloc (.cells #[.int .u8 v] 5)) := by
  refine run_convert_bytes_back (P := Tryd.prog) _ 71 9 5 ⟨W.heap.size, 0, none⟩ 1 [x] (by kernel_rfl) (by kernel_rfl) (by kernel_rfl) (fun j hj => ?_)
  obtain rfl : j = 0 := by simpa using hj
  rw [hv]
  exact (Go.Joins.cell_of_block (al_new W (.cells #[.int .u8 (x.toNat : Int)] 5) _ rfl) 0).trans rfl

theorem wf_small (v : Nat) (h : v ≤ 208827064576) : (Lit.int .i64 (v : Int)).wf = true := by
  show (decide ((-9223372036854775808 : Int) ≤ v) && decide ((v : Int) ≤ 9223372036854775807)) = true
  rw [decide_eq_true (by omega), decide_eq_true (by omega)]; rfl

/-- what a call of from leaves -/
def FromPost (p b : T) (ws : List T) (bm n r : Nat) (v : Nat) (w : World) (e : Ending) (w' : World) : Prop :=
  e = .returned (.int .i64 (v : Nat)) ∧ Aside0 (Memo p b ws w' bm (n + 27 ^ r)) ∧ Aside0 (w.grownBy w' (some bm))

set_option maxRecDepth 100000 in
set_option maxHeartbeats 8000000 in
theorem from_any {p b : T} {ws : List T} (G : Good p b ws) {A : Option Addr} {c : Nat} (w0 : World) (hT0 : Texts w0 A c ws) (hM0 : ML w0) (bm : Nat) (hbm : w0.heap.size ≤ bm) :
    ∀ r place, place + r = p.length → ∀ (text : T), text.length ≤ 8 → Clean ws text → ∀ (n : Nat) (w : World), n + 27 ^ r ≤ 1000000000000000000 → Below w0.heap.size w0 w → Memo p b ws w bm n →
    Calls Tryd.prog 59 #[counterV p b A ws.length c (.map (some bm)), .int .i64 place, .string (str text)] w (FromPost p b ws bm n r (cnt b ws (p.drop place) text) w) := by
  intro r
  induction r with
  | zero =>
    intro place hpl text htl hcl n w hn HB HM
    have hsp := str_size p
    have p8 := G.p8
    have hV : Aside0 (cnt b ws (p.drop place) text = 1) := ⟨by rw [List.drop_eq_nil_of_le (by omega), cnt_nil]⟩
    obtain rfl : place = p.length := by omega
    have HMM := Aside0.mk HM
    clear HM HB G
    go_enter Tryd.func59, Tryd.ntmps59
    go_wp2
    go_ret
    exact ⟨congrArg (fun z : Nat => Ending.returned (Value.int .i64 (z : Int))) hV.out.symm, ⟨(HMM.out.below ((Below.refl w.heap.size w).alloc (Nat.le_refl _) _) HMM.out.lt).mono (by omega)⟩, ⟨World.grownBy_alloc _ _ _⟩⟩
  | succ r ih =>
    intro place hpl text htl hcl n w hn HB HM
    have hsp := str_size p
    have p8 := G.p8
    have hl := G.w3
    have hpp : place < p.length := by omega
    have HIH := Aside0.mk ih
    have HCL := Aside0.mk hcl
    have HBB := Aside0.mk HB
    have HMM := Aside0.mk HM
    have HG := Aside0.mk G
    have HT0 := Aside0.mk hT0
    have HM0 := Aside0.mk hM0
    clear ih hcl HB HM G hT0 hM0
    have hw1 : Aside0 (Below w.heap.size w (w.alloc (.cells #[.string (str p), .string (str b), .slice A ws.length c, .map (some bm)] 58))) := ⟨(Below.refl _ w).alloc (Nat.le_refl _) _⟩
    have hx1 : Aside0 ((w.alloc (.cells #[.string (str p), .string (str b), .slice A ws.length c, .map (some bm)] 58)).heap[w.heap.size]? = some (.cells #[.string (str p), .string (str b), .slice A ws.length c, .map (some bm)] 58 (0, 0))) := ⟨al_new _ _ _ rfl⟩
    have HTA := Aside0.mk (fun W (h : Texts W A c ws) => tail_any p b ws (by omega) A c bm text (by omega) W h)
    rw [tl_clean HCL.out (fun x hx => (HG.out.ww x hx).1.2)] at HTA
    have hEl : (st ws text).length ≤ 3 := by
      rcases st_begins ws text with e | ⟨x, hx, _, hlt⟩
      · rw [e]; simp
      · have := (HG.out.ww x hx).1.2; omega
    have HEC := Aside0.mk (HCL.out.suffix (st_suffix ws text))
    have HEV := Aside0.mk (cnt_st (b := b) (p.drop place) text HCL.out)
    generalize st ws text = E at HTA hEl HEC HEV
    have e97 : IntKind.i64.wrap (97 + (place : Int)) = ((97 + place : Nat) : Int) := by rw [IntWalk.i64_in _ (by omega)]; omega
    have u97 : IntKind.u8.wrap ((97 + place : Nat) : Int) = ((97 + place : Nat) : Int) := by rw [IntKind.wrap_u8]; omega
    obtain ⟨x, hx⟩ : ∃ x, x = UInt8.ofNat (97 + place) := ⟨_, rfl⟩
    have hxv : 97 + (place : Int) = (x.toNat : Int) := by rw [hx]; simp; omega
    have eap : str [x] ++ str E = str (x :: E) := str_append _ _
    have hkey := key_of (x :: E) (by simp; omega)
    have hcv := conv_one x (97 + (place : Int)) hxv
    have HKX : Aside0 (keyL place E = .string (x :: E)) := ⟨by rw [hx]⟩
    clear hx hxv
    obtain ⟨D, hown, hkn⟩ := HMM.out
    have HOWN := Aside0.mk (fun W (h : Below w.heap.size w W) => hown.kept (grown_below h none) (by simp))
    have HKN := Aside0.mk hkn
    clear hown hkn
    cases hh : Maps.has D (.string (x :: E)) with
    | true =>
      have HH := Aside0.mk (HKN.out.2 place E (by omega) (by rw [HKX.out]; exact hh))
      rw [HKX.out] at HH
      go_enter Tryd.func59, Tryd.ntmps59
      go_wp2_with (first | (go_at_call 85; refine (HTA.out _ (texts_below HT0.out (HBB.out.trans (hw1.out.mono HBB.out.size)))).mono ?_; rintro e w2 ⟨rfl, hb2⟩; have HB2 := Aside0.mk (hw1.out.trans (hb2.mono hw1.out.size)); have HX2 := Aside0.mk ((hb2.block w.heap.size (by rw [al_size]; omega)).trans hx1.out); have HL2 : Aside0 (w.heap.size < w2.heap.size) := ⟨by have := hb2.size; rw [al_size] at this; omega⟩; have k3 := fun o => (Go.Joins.cell_of_block (al_old w2 o _ _ HX2.out) 3); simp only [List.getElem?_toArray, List.getElem?_cons_zero, List.getElem?_cons_succ] at k3; clear hb2) | (at_lookup; refine wpList_lookup_own_ok_int _ rfl _ _ 56 rfl 9 3 .i64 law9 und56 und3 (zero3 _) bm n D rfl (HOWN.out _ (HB2.out.alloc HB2.out.size _)) _ _ rfl hkey ?_; intro cL hat hwc; rw [hh]; have HAT := Aside0.mk hat; clear hat hwc))
      go_ret
      have hc : cL = (cnt b ws (p.drop place) E : Nat) := by
        have := HAT.out.symm.trans HH.out
        injection this with h1
        injection h1
      refine ⟨?_, ⟨(HMM.out.below (HB2.out.alloc HB2.out.size _) HMM.out.lt).mono (Nat.le_add_right _ _)⟩, ⟨grown_below (HB2.out.alloc HB2.out.size _) _⟩⟩
      rw [HEV.out, hc]
      rfl
    | false =>
      have hal := allowed_length b p[place]
      have HAO := Aside0.mk (fun W (h : Texts W A c ws) => allowed_own (b := b) place hpp W h)
      have hdrop : Aside0 (p.drop place = p[place] :: p.drop (place + 1)) := ⟨List.drop_eq_getElem_cons hpp⟩
      have hbig : Aside0 (∀ k, wayN b ws (p.drop (place + 1)) E (allowedL b p[place]) k ≤ 208827064576) := ⟨fun k => Nat.le_trans (wayN_le b ws p[place] _ E k) (cnt_bound b ws _ _ (by rw [← hdrop.out, List.length_drop]; omega))⟩
      have hall : Aside0 (wayN b ws (p.drop (place + 1)) E (allowedL b p[place]) (allowedL b p[place]).length = cnt b ws (p.drop place) E) := ⟨by rw [hdrop.out]; exact wayN_all b ws _ _ E⟩
      generalize allowedL b p[place] = al at hal HAO hbig hall
      clear hdrop
      have HASC : True := trivial
      obtain ⟨Z, hZ⟩ : ∃ Z, Z = 27 ^ r := ⟨_, rfl⟩
      have hZ27 : 27 ^ (r + 1) = Z * 27 := by rw [Nat.pow_succ, hZ]
      rw [hZ27] at hn
      have HZ := Aside0.mk hZ
      have HZ27 := Aside0.mk hZ27
      clear hZ hZ27 HASC
      go_enter Tryd.func59, Tryd.ntmps59
      go_wp2_with (first | (go_at_call 85; refine (HTA.out _ (texts_below HT0.out (HBB.out.trans (hw1.out.mono HBB.out.size)))).mono ?_; rintro e w2 ⟨rfl, hb2⟩; have HB2 := Aside0.mk (hw1.out.trans (hb2.mono hw1.out.size)); have HX2 := Aside0.mk ((hb2.block w.heap.size (by rw [al_size]; omega)).trans hx1.out); have HL2 : Aside0 (w.heap.size < w2.heap.size) := ⟨by have := hb2.size; rw [al_size] at this; omega⟩; have k3 := fun o => (Go.Joins.cell_of_block (al_old w2 o _ _ HX2.out) 3); have k0 := fun o => (Go.Joins.cell_of_block (al_old w2 o _ _ HX2.out) 0); have k1 := fun o => (Go.Joins.cell_of_block (al_old w2 o _ _ HX2.out) 1); have k2 := fun o => (Go.Joins.cell_of_block (al_old w2 o _ _ HX2.out) 2); simp only [List.getElem?_toArray, List.getElem?_cons_zero, List.getElem?_cons_succ] at k0 k1 k2 k3; clear hb2) | (at_lookup; refine wpList_lookup_own_ok_int _ rfl _ _ 56 rfl 9 3 .i64 law9 und56 und3 (zero3 _) bm n D rfl (HOWN.out _ (HB2.out.alloc HB2.out.size _)) _ _ rfl hkey ?_; intro cL hat hwc; rw [hh]; clear hat hwc) | (go_at_call 86; refine (HAO.out _ (texts_below HT0.out (HBB.out.trans ((HB2.out.alloc HB2.out.size _).mono HBB.out.size)))).mono ?_; rintro e w4 ⟨A4, c4, rfl, hR4, hb4⟩; have HR4 := Aside0.mk hR4; have HB4 := Aside0.mk (HB2.out.trans (((Below.refl w2.heap.size w2).alloc (Nat.le_refl _) _).trans (hb4.mono (by rw [al_size]; omega)) |>.mono HB2.out.size)); have HX4 := Aside0.mk ((hb4.block w.heap.size (by rw [al_size]; have := HL2.out; omega)).trans (al_old w2 _ _ _ HX2.out)); have HL4 : Aside0 (w.heap.size + 1 < w4.heap.size) := ⟨by have := hb4.size; rw [al_size] at this; have := HL2.out; omega⟩; clear hR4 hb4))
      go_loopg [11, 45] (al.length + 1) (fun gg v11 v45 wr => ∃ k : Nat, v11 = .int .i64 (wayN b ws (p.drop (place + 1)) E al k : Nat) ∧ v45 = .int .i64 k ∧ k ≤ al.length ∧ al.length - k < gg ∧ Aside0 (Memo p b ws wr bm (n + k * Z)) ∧ Aside0 (w4.grownBy wr (some bm)))
      case atStart => exact ⟨0, rfl, rfl, by omega, by omega, ⟨by rw [Nat.zero_mul, Nat.add_zero]; exact HMM.out.below HB4.out HMM.out.lt⟩, ⟨grown_below (Below.refl _ w4) _⟩⟩
      case round =>
        clear k0 k1 k2 k3
        obtain ⟨k, rfl, rfl, i1, i2, HMK, HGR⟩ := hrel
        have hbw : Aside0 (bm < w.heap.size) := ⟨HMM.out.lt⟩
        have HXR := Aside0.mk ((HGR.out.block w.heap.size (by have := HL4.out; omega) (fun e => by have := Option.some.inj e; have := hbw.out; omega)).trans HX4.out)
        have HB0 := Aside0.mk (HBB.out.trans ((HB4.out.mono HBB.out.size).trans (below_grown HGR.out hbm (Nat.le_trans HBB.out.size HB4.out.size))))
        by_cases hk : k < al.length
        · obtain ⟨ad, eA, hx⟩ := list_at HR4.out (W := wr) (fun q h1 h2 => HGR.out.block q h2 (fun e => by have := Option.some.inj e; have := hbw.out; have := HB2.out.size; rw [al_size] at h1; omega)) k hk
          subst eA
          have HSU := Aside0.mk (wayN_succ b ws (p.drop (place + 1)) E al k hk)
          have hbk := hbig.out (k + 1)
          obtain ⟨ch, hch⟩ : ∃ ch, ch = al[k] := ⟨_, rfl⟩
          rw [← hch] at HSU hx
          clear hch
          have hcv2 := conv_one ch (ch.toNat : Int) rfl
          have eap2 : str E ++ str [ch] = str (E ++ [ch]) := str_append _ _
          have tl4 : (E ++ [ch]).length ≤ 4 := by rw [List.length_append, List.length_singleton]; omega
          have HWI := Aside0.mk (fun W (h : Texts W A c ws) (hml : ML W) => wordsIn_any (p := p) (b := b) (E ++ [ch]) (by omega) (by omega) W h hml)
          have k0 := fun o => (Go.Joins.cell_of_block (al_old wr o _ _ HXR.out) 0)
          have k1 := fun o => (Go.Joins.cell_of_block (al_old wr o _ _ HXR.out) 1)
          have k2 := fun o => (Go.Joins.cell_of_block (al_old wr o _ _ HXR.out) 2)
          simp only [List.getElem?_toArray, List.getElem?_cons_zero, List.getElem?_cons_succ] at k0 k1 k2
          have HW5 := Aside0.mk ((Below.refl wr.heap.size wr).alloc (Nat.le_refl _) (.cells #[.int .u8 (ch.toNat : Int)] 5))
          have HB5 := Aside0.mk (HB0.out.trans (HW5.out.mono HB0.out.size))
          have hZk : (k + 1) * Z = k * Z + Z := Nat.succ_mul k Z
          have hkz : (k + 1) * Z ≤ 26 * Z := Nat.mul_le_mul_right Z (by omega)
          have HX5 := Aside0.mk (al_old wr (.cells #[.int .u8 (ch.toNat : Int)] 5) _ _ HXR.out)
          have hbr : Aside0 (w.heap.size < wr.heap.size) := ⟨(Array.getElem?_eq_some_iff.1 HXR.out).1⟩
          by_cases hcl : Clean ws (E ++ [ch])
          · have HC2 := Aside0.mk hcl
            have hway : way b ws (p.drop (place + 1)) E ch = cnt b ws (p.drop (place + 1)) (E ++ [ch]) := by unfold way; rw [if_pos hcl]
            rw [hway] at HSU
            clear hcl hway
            have HI2 := Aside0.mk (fun W (hB : Below w0.heap.size w0 W) (hM : Memo p b ws W bm (n + k * Z)) => HIH.out (place + 1) (by omega) (E ++ [ch]) (by omega) HC2.out (n + k * Z) W (by rw [← HZ.out]; omega) hB hM)
            rw [show ((place + 1 : Nat) : Int) = (place : Int) + 1 from rfl] at HI2
            obtain ⟨M, hM⟩ : ∃ M, M = wayN b ws (p.drop (place + 1)) E al k := ⟨_, rfl⟩
            obtain ⟨V, hV⟩ : ∃ V, V = cnt b ws (p.drop (place + 1)) (E ++ [ch]) := ⟨_, rfl⟩
            rw [← hM]
            rw [← hM, ← hV] at HSU
            rw [← hV] at HI2
            rw [HSU.out] at hbk
            clear hM hV
            have epl : IntKind.i64.wrap ((place : Int) + 1) = (place : Int) + 1 := IntWalk.i64_in _ (by omega)
            have eMV : IntKind.i64.wrap ((M : Int) + V) = ((M + V : Nat) : Int) := by rw [IntWalk.i64_in _ (by omega)]; omega
            go_wp2_with (first | (go_at_call 87; refine (HWI.out _ (texts_below HT0.out HB5.out) (ml_below HM0.out HB5.out)).mono ?_; rintro e w6 ⟨A6, n6, c6, rfl, hn6, hb6⟩; obtain rfl := hn6.2 HC2.out; have HB6 := Aside0.mk hb6; have HX6 := Aside0.mk ((hb6.block w.heap.size (by rw [al_size]; have := hbr.out; omega)).trans HX5.out); have q0 := (Go.Joins.cell_of_block HX6.out 0); have q1 := (Go.Joins.cell_of_block HX6.out 1); have q2 := (Go.Joins.cell_of_block HX6.out 2); have q3 := (Go.Joins.cell_of_block HX6.out 3); simp only [List.getElem?_toArray, List.getElem?_cons_zero, List.getElem?_cons_succ] at q0 q1 q2 q3; clear hb6 hn6) | (go_at_call 59; refine (HI2.out _ (HB5.out.trans (HB6.out.mono HB5.out.size)) ((HMK.out.below HW5.out HMK.out.lt).below HB6.out (by rw [al_size]; have := HMK.out.lt; omega))).mono ?_; rintro e w7 ⟨rfl, hm7, hg7⟩))
            go_roundg (al.length - k)
            case measure => omega
            case rel => exact ⟨k + 1, by rw [HSU.out]; rfl, by first | rfl | go_num, by omega, by omega, ⟨hm7.out.mono (by rw [← HZ.out]; omega)⟩, ⟨grown_trans HGR.out (grown_trans (grown_below HW5.out _) (grown_trans (grown_below HB6.out _) hg7.out))⟩⟩
          · have HC2 := Aside0.mk hcl
            have hway : way b ws (p.drop (place + 1)) E ch = 0 := by unfold way; rw [if_neg hcl]
            rw [hway, Nat.add_zero] at HSU
            clear hcl hway
            go_wp2_with (go_at_call 87; refine (HWI.out _ (texts_below HT0.out HB5.out) (ml_below HM0.out HB5.out)).mono ?_; rintro e w6 ⟨A6, n6, c6, rfl, hn6, hb6⟩; obtain ⟨n7, rfl⟩ : ∃ n7, n6 = n7 + 1 := ⟨n6 - 1, by have : n6 ≠ 0 := fun h => HC2.out (hn6.1 h); omega⟩; have HB6 := Aside0.mk hb6; have e6 : ((((n7 + 1 : Nat) : Int)) == 0) = false := (by rw [beq_eq_false_iff_ne]; omega); clear hb6 hn6)
            go_roundg (al.length - k)
            case measure => omega
            case rel => exact ⟨k + 1, by rw [HSU.out]; rfl, by first | rfl | go_num, by omega, by omega, ⟨((HMK.out.below HW5.out HMK.out.lt).below HB6.out (by rw [al_size]; have := HMK.out.lt; omega)).mono (by omega)⟩, ⟨grown_trans HGR.out (grown_trans (grown_below HW5.out _) (grown_below HB6.out _))⟩⟩
        · obtain rfl : k = al.length := by omega
          rw [hall.out]
          have k3 := (Go.Joins.cell_of_block HXR.out 3)
          simp only [List.getElem?_toArray, List.getElem?_cons_zero, List.getElem?_cons_succ] at k3
          obtain ⟨D2, hown2, hkn2⟩ := HMK.out
          have hb8 := hbig.out al.length
          rw [hall.out] at hb8
          have HOW2 := Aside0.mk hown2
          have HKN2 := Aside0.mk (known_put hkn2 place (by omega) E)
          rw [HKX.out] at HKN2
          have hkz : al.length * Z ≤ 26 * Z := Nat.mul_le_mul_right Z hal
          have hbnd : n + al.length * Z < maxLen := by unfold maxLen; omega
          have hval : plainElem (H := Unit) Tryd.prog 3 (.int .i64 (cnt b ws (p.drop place) E : Nat)) = some (.lit (.int .i64 (cnt b ws (p.drop place) E : Nat)), []) := plainElem_int und3 (wf_small _ hb8)
          clear hown2 hkn2
          go_wp2_with (at_mapUpdate; refine wpList_mapUpdate_own _ rfl _ _ _ 56 rfl 9 3 law9 und56 (plainElem Tryd.prog 3) bm (n + al.length * Z) D2 rfl HOW2.out hbnd _ _ (.string (x :: E)) rfl rfl hkey _ [] hval ?_; intro w9 hown9 hgrow9; have HO9 := Aside0.mk hown9; have HG9 := Aside0.mk hgrow9; clear hown9 hgrow9)
          go_ret
          refine ⟨?_, ⟨Memo.mono ⟨_, HO9.out, HKN2.out⟩ ?_⟩, ⟨grown_trans (grown_below HB4.out _) (grown_trans HGR.out HG9.out)⟩⟩
          · rw [HEV.out]; rfl
          · have := Nat.one_le_two_pow (n := 0)
            have hz1 : 1 ≤ Z := by rw [HZ.out]; exact Nat.one_le_pow _ _ (by omega)
            rw [HZ27.out]; omega
end Go.Proofs.YtoieadofldkccaaDoor.Plates
