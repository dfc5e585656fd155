/-
  Plates: counter.ofRank tells the plate behind so many.
-/
import Derived.Test.YtoieadofldkccaaDoorHPTotals
namespace Go.Proofs.YtoieadofldkccaaDoor.Plates
open Go.RowKit Go.Proofs.YtoieadofldkccaaDoorW.PrintWords Go.Proofs.YtoieadofldkccaaDoorW.PrintLast Go.Proofs.YtoieadofldkccaaDoorW.PrintMore Go.Proofs.YtoieadofldkccaaDoor.PFnExactCountBeginning
open PFake (ML ml_below)
set_option linter.unusedVariables false
set_option linter.unusedSimpArgs false

theorem within_any (a b c : Int) (w : World) : Calls Tryd.prog 70 #[.int .i64 a, .int .i64 b, .int .i64 c] w fun e w' => e = .returned (.bool (decide (b ≤ a ∧ a ≤ c))) ∧ Drawn0 w w' :=
  impl_within.calls a b c _ w (within_eq a b c)

/-- there is a plate behind so many -/
noncomputable def okO (p b : T) (ws : List T) (r : Int) : Bool := decide (0 ≤ r ∧ r ≤ ((fromN p b ws [] : Nat) : Int) - 1)
noncomputable def valO (p b : T) (ws : List T) (r : Int) : T := if okO p b ws r = true then rankedN p b ws r.toNat else []

/-- what a call of ofRank leaves -/
def OfPost (p b : T) (ws : List T) (bm n : Nat) (r : Int) (w : World) (e : Ending) (w' : World) : Prop :=
  e = .returned (.tuple #[.string (str (valO p b ws r)), .bool (okO p b ws r)]) ∧ Aside0 (Memo p b ws w' bm (n + 100000000000000)) ∧ Aside0 (w.grownBy w' (some bm))

set_option maxRecDepth 100000 in
set_option maxHeartbeats 8000000 in
theorem ofRank_any {p b : T} {ws : List T} (G : Good p b ws) {A : Option Addr} {c : Nat} (w0 : World) (hT0 : Texts w0 A c ws) (hM0 : ML w0) (bm : Nat) (hbm : w0.heap.size ≤ bm) (r : Int) (n : Nat) (hn : n + 100000000000000 ≤ 1000000000000000000) (w : World) (HB : Below w0.heap.size w0 w) (HM : Memo p b ws w bm n) :
    Calls Tryd.prog 62 #[counterV p b A ws.length c (.map (some bm)), .int .i64 r] w (OfPost p b ws bm n r w) := by
  have hsp := str_size p
  have p8 := G.p8
  have hl := G.w3
  have hbw : Aside0 (bm < w.heap.size) := ⟨HM.lt⟩
  have HB0 := Aside0.mk HB
  have HMM := Aside0.mk HM
  have HT0 := Aside0.mk hT0
  have HM0 := Aside0.mk hM0
  have HG := Aside0.mk G
  have hw1 : Aside0 (Below w.heap.size w (w.alloc (boxC p b A ws.length c bm))) := ⟨(Below.refl _ w).alloc (Nat.le_refl _) _⟩
  have HX1 : Aside0 ((w.alloc (boxC p b A ws.length c bm)).heap[w.heap.size]? = some (boxC p b A ws.length c bm)) := ⟨al_new _ _ _ rfl⟩
  have HFA := Aside0.mk (fromAll_any G w0 hT0 hM0 bm hbm n (by omega) _ (HB.trans (hw1.out.mono HB.size)) (HM.below hw1.out HM.lt))
  have HWI := Aside0.mk (fun X W => within_any r 0 (((X : Nat) : Int) - 1) W)
  have hX := fromN_le b ws [] p8
  clear HB HM hT0 hM0 G
  by_cases hin : 0 ≤ r ∧ r ≤ ((fromN p b ws [] : Nat) : Int) - 1
  case neg =>
    have HK : Aside0 (okO p b ws r = false) := ⟨by unfold okO; exact decide_eq_false hin⟩
    have HV : Aside0 (valO p b ws r = []) := ⟨by unfold valO; rw [HK.out]; rfl⟩
    have HW2 := Aside0.mk (fun W => HWI.out (fromN p b ws []) W)
    rw [decide_eq_false hin] at HW2
    clear hin HWI
    generalize fromN p b ws [] = X at hX HFA HW2
    have eX : wrap64 ((X : Int) - 1) = (X : Int) - 1 := wi (by omega) (by omega)
    unfold OfPost
    rw [HK.out, HV.out]
    go_enter Tryd.func62, Tryd.ntmps62
    go_wp2_with (first | (go_at_call 59; refine HFA.out.mono ?_; rintro e w3 ⟨rfl, hm3, hg3⟩; have HM3 := hm3; have HG3 := Aside0.mk (grown_trans (grown_below hw1.out _) hg3.out); clear hm3 hg3) | (go_at_call 70; refine (HW2.out _).mono ?_; rintro e w' ⟨rfl, ⟨nd, rfl⟩⟩))
    refine bodyPost_ret (results_tmp2 rfl _ _ _) rfl ?_
    have hd := pw_below_drewN (Below.refl w3.heap.size w3) nd
    exact ⟨rfl, ⟨(HM3.out.below hd HM3.out.lt).mono (by omega)⟩, ⟨grown_trans HG3.out (grown_below hd _)⟩⟩
  have HK : Aside0 (okO p b ws r = true) := ⟨by unfold okO; exact decide_eq_true hin⟩
  have HV : Aside0 (valO p b ws r = rankedN p b ws r.toNat) := ⟨by unfold valO; rw [if_pos HK.out]⟩
  have HW2 := Aside0.mk (fun W => HWI.out (fromN p b ws []) W)
  rw [decide_eq_true hin] at HW2
  obtain ⟨R, rfl⟩ : ∃ R : Nat, r = R := ⟨r.toNat, by omega⟩
  have hR : R ≤ 208827064576 := by omega
  rw [show ((R : Int)).toNat = R from rfl] at HV
  clear hin HWI
  generalize fromN p b ws [] = X at hX HFA HW2
  have eX : wrap64 ((X : Int) - 1) = (X : Int) - 1 := wi (by omega) (by omega)
  unfold OfPost
  rw [HK.out, HV.out]
  go_enter Tryd.func62, Tryd.ntmps62
  go_wp2_with (first | (go_at_call 59; refine HFA.out.mono ?_; rintro e w3 ⟨rfl, hm3, hg3⟩; have HM3 := hm3; have HG3 := Aside0.mk (grown_trans (grown_below hw1.out _) hg3.out); have HX3 := Aside0.mk (grown_box hg3.out HX1.out hbw.out); clear hm3 hg3) | (go_at_call 70; refine (HW2.out _).mono ?_; rintro e w' ⟨rfl, ⟨nd, rfl⟩⟩; have hd := pw_below_drewN (Below.refl w3.heap.size w3) nd; have HM4 := Aside0.mk (HM3.out.below hd HM3.out.lt); have HG4 := Aside0.mk (grown_trans HG3.out (grown_below hd (some bm))); have HX4 := Aside0.mk (below_box hd HX3.out); clear hd HM3 HG3 HX3; generalize World.drewN w3 nd = w4 at HM4 HG4 HX4 ⊢; obtain ⟨k0, k1, k2, k3⟩ := boxC_cells HX4.out))
  clear k0 k1 k2 k3 HFA HW2
  go_loopg [1, 6, 22] (p.length + 1) (fun gg v1 v6 v22 wr => ∃ i : Nat, v1 = .int .i64 ((rankedTo p b ws R i).2 : Nat) ∧ v6 = .string (str (rankedTo p b ws R i).1) ∧ v22 = .int .i64 i ∧ i ≤ p.length ∧ p.length - i < gg ∧ Aside0 (Memo p b ws wr bm (n + 282429536481 + i * 26 * 282429536481)) ∧ Aside0 (wr.heap[w.heap.size]? = some (boxC p b A ws.length c bm)) ∧ Aside0 (w.grownBy wr (some bm)))
  case atStart => exact ⟨0, rfl, rfl, rfl, by omega, by omega, ⟨HM4.out.mono (by omega)⟩, HX4, HG4⟩
  case round =>
    rename World => V1
    clear HM4 HX4 HG4
    obtain ⟨i, rfl, rfl, rfl, i1, i2, HMW, HX, HGW⟩ := hrel
    by_cases hip : i < p.length
    · have hlen := rankedTo_len p b ws R i
      have HST : Aside0 (rankedTo p b ws R (i + 1) = step p b ws p[i] (rankedTo p b ws R i)) := ⟨by rw [rankedTo, getD_of p i hip]⟩
      generalize rankedTo p b ws R i = or at hlen HST ⊢
      obtain ⟨o, r0⟩ := or
      simp only at hlen ⊢
      obtain ⟨ho, hr0⟩ := hlen
      have HAL := Aside0.mk (fun W (h : Texts W A c ws) => allowed_own (b := b) i hip W h)
      have hal := allowed_length b p[i]
      have HPA := Aside0.mk (pick_allowed p b ws p[i] o r0)
      generalize allowedL b p[i] = al at HAL hal HPA
      have HV1 := Aside0.mk (HB0.out.trans (below_grown HGW.out hbm HB0.out.size))
      obtain ⟨k0, k1, k2, k3⟩ := boxC_cells HX.out
      go_wp2_with (go_at_call 86; refine (HAL.out _ (texts_below HT0.out HV1.out)).mono ?_; rintro e w4 ⟨A4, c4, rfl, hR4, hb4⟩; have HR4 := Aside0.mk hR4; have HB4 := Aside0.mk hb4; have HX4 := Aside0.mk (below_box hb4 HX.out); have HM4 := Aside0.mk (HMW.out.below hb4 HMW.out.lt); have HG4 := Aside0.mk (grown_trans HGW.out (grown_below hb4 _)); clear hR4 hb4)
      clear k0 k1 k2 k3
      go_loopg [1, 6, 30] (al.length + 1) (fun gg v1 v6 v30 wr => ∃ k r1 : Nat, v1 = .int .i64 r1 ∧ v6 = .string (str o) ∧ v30 = .int .i64 k ∧ k ≤ al.length ∧ al.length - k < gg ∧ r1 ≤ 208827064576 ∧ Aside0 (pick (fun c => fromN p b ws (o ++ [c])) (al.drop k) r1 = pick (fun c => fromN p b ws (o ++ [c])) al r0) ∧ Aside0 (Memo p b ws wr bm (n + 282429536481 + (i * 26 + k) * 282429536481)) ∧ Aside0 (w4.grownBy wr (some bm)))
      case atStart => exact ⟨0, r0, rfl, rfl, rfl, by omega, by omega, by omega, ⟨rfl⟩, ⟨HM4.out.mono (by omega)⟩, ⟨grown_below (Below.refl _ w4) _⟩⟩
      case round =>
        rename World => V2
        obtain ⟨k, r1, rfl, rfl, rfl, j1, j2, j3, HPK, HM5, HG5⟩ := hrel
        have HX5 := Aside0.mk (grown_box HG5.out HX4.out hbw.out)
        have HGW5 := Aside0.mk (grown_trans HG4.out HG5.out)
        have HV5 := Aside0.mk (HB0.out.trans (below_grown HGW5.out hbm HB0.out.size))
        by_cases hk : k < al.length
        · obtain ⟨ad, eA, hx⟩ := list_at HR4.out (W := V2) (fun q h1 h2 => HG5.out.block q h2 (fun e => by have := Option.some.inj e; have := hbw.out; have := HGW.out.size; omega)) k hk
          subst eA
          have HPD := HPK.out
          rw [pick_drop _ al k r1 hk] at HPD
          have HPD := Aside0.mk HPD
          obtain ⟨ch, hch⟩ : ∃ ch, ch = al[k] := ⟨_, rfl⟩
          rw [← hch] at HPD hx
          clear hch HPK
          have hv := fromN_le b ws (o ++ [ch]) p8
          have HBG := Aside0.mk (fun W hB hM => beginning_any HG.out w0 HT0.out HM0.out bm hbm (o ++ [ch]) (by rw [List.length_append, List.length_singleton]; omega) (n + 282429536481 + (i * 26 + k) * 282429536481) (by omega) W hB hM)
          obtain ⟨V, hV⟩ : ∃ V, V = fromN p b ws (o ++ [ch]) := ⟨_, rfl⟩
          rw [← hV] at hv HBG HPD
          clear hV
          have hcv2 := conv_one ch (ch.toNat : Int) rfl
          have eap2 : str o ++ str [ch] = str (o ++ [ch]) := str_append _ _
          have tl9 : (o ++ [ch]).length ≤ 9 := by rw [List.length_append, List.length_singleton]; omega
          have HW6 := Aside0.mk ((Below.refl V2.heap.size V2).alloc (Nat.le_refl _) (.cells #[.int .u8 (ch.toNat : Int)] 5))
          have HX6 := Aside0.mk (al_old V2 (.cells #[.int .u8 (ch.toNat : Int)] 5) _ _ HX5.out)
          have HV6 := Aside0.mk (HV5.out.trans (HW6.out.mono HV5.out.size))
          have HM6 := Aside0.mk (HM5.out.below HW6.out HM5.out.lt)
          obtain ⟨k0, k1, k2, k3⟩ := boxC_cells HX6.out
          by_cases hlt : r1 < V
          · rw [if_pos hlt] at HPD
            have hlt2 : ((r1 : Int) < V) = True := by simp; omega
            clear hlt
            go_wp2_with (go_at_call 60; refine (HBG.out _ HV6.out HM6.out).mono ?_; rintro e w8 ⟨rfl, hm8, hg8⟩; have HM8 := hm8; have HG8 := Aside0.mk (grown_trans HG5.out (grown_trans (grown_below HW6.out _) hg8.out)); clear hm8 hg8 k0 k1 k2 k3)
            have HE : Aside0 (rankedTo p b ws R (i + 1) = (o ++ [ch], r1)) := ⟨by rw [HST.out]; exact step_some (by rw [← HPA.out]; exact HPD.out.symm)⟩
            go_roundg (p.length - i)
            case measure => omega
            case rel => exact ⟨i + 1, by rw [HE.out], by rw [HE.out], by first | rfl | go_num, by omega, by omega, ⟨HM8.out.mono (by omega)⟩, ⟨grown_box HG8.out HX4.out hbw.out⟩, ⟨grown_trans HG4.out HG8.out⟩⟩
          · rw [if_neg hlt] at HPD
            have hlt2 : ((r1 : Int) < V) = False := by simp; omega
            have hle : V ≤ r1 := by omega
            have er : wrap64 ((r1 : Int) - V) = ((r1 - V : Nat) : Int) := by rw [wi (by omega) (by omega)]; omega
            clear hlt
            go_wp2_with (go_at_call 60; refine (HBG.out _ HV6.out HM6.out).mono ?_; rintro e w8 ⟨rfl, hm8, hg8⟩; have HM8 := hm8; have HG8 := Aside0.mk (grown_trans HG5.out (grown_trans (grown_below HW6.out _) hg8.out)); clear hm8 hg8 k0 k1 k2 k3)
            go_roundg (al.length - k)
            case measure => omega
            case rel => exact ⟨k + 1, r1 - V, congrArg (Value.int .i64) (by omega), rfl, by first | rfl | go_num, by omega, by omega, by omega, HPD, ⟨HM8.out.mono (by omega)⟩, HG8⟩
        · obtain rfl : k = al.length := by omega
          have HPD := HPK.out
          rw [List.drop_length, pick_nil] at HPD
          have HE : Aside0 (rankedTo p b ws R (i + 1) = (o, r1)) := ⟨by rw [HST.out]; exact step_none (by rw [← HPA.out]; exact HPD.symm)⟩
          clear HPD
          go_wp2
          go_roundg (p.length - i)
          case measure => omega
          case rel => exact ⟨i + 1, by rw [HE.out], by rw [HE.out], by first | rfl | go_num, by omega, by omega, ⟨HM5.out.mono (by omega)⟩, HX5, HGW5⟩
    · obtain rfl : i = p.length := by omega
      go_wp2
      refine bodyPost_ret (results_tmp2 rfl _ _ _) rfl ?_
      exact ⟨rfl, ⟨HMW.out.mono (by omega)⟩, HGW⟩
end Go.Proofs.YtoieadofldkccaaDoor.Plates
