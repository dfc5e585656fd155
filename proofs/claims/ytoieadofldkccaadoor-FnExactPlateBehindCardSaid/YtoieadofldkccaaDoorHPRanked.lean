/-
  Plates: spec.plRanked tells the plate behind so many.
-/
import Derived.Test.YtoieadofldkccaaDoorHPOfRank
namespace Go.Proofs.YtoieadofldkccaaDoor.Plates
open Go.RowKit Go.Proofs.YtoieadofldkccaaDoorW.PrintWords Go.Proofs.YtoieadofldkccaaDoorW.PrintLast Go.Proofs.YtoieadofldkccaaDoorW.PrintMore Go.Proofs.YtoieadofldkccaaDoor.PFnExactCountBeginning
open PFake (ML ml_below)
set_option linter.unusedVariables false
set_option linter.unusedSimpArgs false

def plRanked.T11 : Bool × List (List Nat × List Nat) := (true, [([], []), ([], []), ([], []), ([], []), ([], []), ([4], [4]), ([2, 3, 5], [2, 3, 5]), ([1, 6], [1, 6]), ([0, 7], [0, 7]), ([8, 8, 0, 1, 2, 3, 4, 5, 6, 7, 8], [8])])
def plRanked.B11 : List Nat := [0, 0, 0, 0, 0, 16, 60, 126, 255, 511]
theorem plRanked.tab11 : rtab .any (opsOf Tryd.f61 11) = plRanked.T11 := by kernel_rfl
theorem plRanked.bits11 : waitsOk plRanked.T11.2 plRanked.B11 = true := by kernel_rfl

set_option maxRecDepth 100000 in
set_option maxHeartbeats 8000000 in
theorem plRanked_any {p b : T} {ws : List T} (G : Good p b ws) {A : Option Addr} {c : Nat} (R : Nat) (hR : R ≤ 208827064576) (w : World) (hT : Texts w A c ws) :
    Calls Tryd.prog 61 #[.agg #[.string (str p), .string (str b), .slice A ws.length c], .int .i64 R] w fun e w' => e = .returned (.string (str (rankedN p b ws R))) ∧ Below w.heap.size w w' := by
  have hsp := str_size p
  have p8 := G.p8
  have hl := G.w3
  have HPA : Aside0 (∀ c ∈ p, c.toNat < 128) := ⟨fun c hc => by rcases G.pat c hc with e | e <;> rw [e] <;> decide⟩
  have HT := Aside0.mk hT
  have HG := Aside0.mk G
  clear hT G
  go_enter Tryd.func61, Tryd.ntmps61
  go_wp2
  go_loopg [1, 5] (p.length + 1) (fun gg v1 v5 wr => ∃ i : Nat, v1 = .int .i64 ((rankedTo p b ws R i).2 : Nat) ∧ v5 = .string (str (rankedTo p b ws R i).1) ∧ i ≤ p.length ∧ p.length - i < gg ∧ Aside0 (Walker wr (w.heap.size + 1) (str p) i) ∧ Aside0 (wr.heap[w.heap.size]? = some (boxS p b A ws.length c)) ∧ Aside0 (Below w.heap.size w wr))
  case atStart => exact ⟨0, rfl, rfl, by omega, by omega, ⟨by have := walker_new (w.alloc (boxS p b A ws.length c)) (str p); rwa [al_size] at this⟩, ⟨block_iter (al_new _ _ _ rfl)⟩, ⟨below_iter ((Below.refl _ w).alloc (Nat.le_refl _) _) (by rw [al_size]; omega) _ _⟩⟩
  case round =>
    rename World => V1
    obtain ⟨i, rfl, rfl, i1, i2, HW, HX, HB⟩ := hrel
    by_cases hip : i < p.length
    · have hnx : ∀ ty, (Instr.next (.pointer (some ⟨w.heap.size + 1, 0, none⟩)) true ty).run Tryd.prog V1 = _ := fun ty => next_digit V1 (w.heap.size + 1) (str p) i ty HW.out (by rw [hsp]; exact hip) (HPA.out _ (by show p[i] ∈ p; exact List.getElem_mem hip))
      have hss := size_stand V1 (w.heap.size + 1) (str p) (i + 1)
      have HLT := Aside0.mk HW.out.lt
      have hlen := rankedTo_len p b ws R i
      have HST : Aside0 (rankedTo p b ws R (i + 1) = step p b ws p[i] (rankedTo p b ws R i)) := ⟨by rw [rankedTo, getD_of p i hip]⟩
      generalize rankedTo p b ws R i = or at hlen HST ⊢
      obtain ⟨o, r0⟩ := or
      simp only at hlen ⊢
      obtain ⟨ho, hr0⟩ := hlen
      have HB1 := Aside0.mk (below_stand HB.out (b := w.heap.size + 1) (by omega) (str p) (i + 1))
      have HX1 := Aside0.mk (block_stand (b := w.heap.size + 1) (s := str p) (p := i + 1) HX.out (by omega))
      have HW1 := Aside0.mk (walker_stand HW.out (i + 1))
      have hpx := HG.out.pat p[i] (List.getElem_mem hip)
      have sgl := signsAt_length p[i]
      have SGA : Aside0 (∀ c ∈ signsAt p[i], c.toNat < 128) := ⟨fun c hc => by have := signs_low p[i] c hc; omega⟩
      obtain ⟨m, hm⟩ : ∃ m, m = p[i].toNat := ⟨_, rfl⟩
      have hbp : ((str p)[i]'(by rw [str_size]; exact hip)).toNat = m := hm.symm
      have hsg : (m = 76 ∧ (ByteArray.mk #[65, 66, 67, 68, 69, 70, 71, 72, 73, 74, 75, 76, 77, 78, 79, 80, 81, 82, 83, 84, 85, 86, 87, 88, 89, 90]) = str (signsAt p[i])) ∨ (m = 68 ∧ (ByteArray.mk #[48, 49, 50, 51, 52, 53, 54, 55, 56, 57]) = str (signsAt p[i])) := by
        rcases hpx with e | e
        · exact .inl ⟨by rw [hm, e]; rfl, by rw [e]; rfl⟩
        · exact .inr ⟨by rw [hm, e]; rfl, by rw [e]; rfl⟩
      clear hm hpx
      have HPS : Aside0 (rankedTo p b ws R (i + 1) = match (pick (fun c => fromN p b ws (o ++ [c])) (signsAt p[i]) r0).1 with | some c => (o ++ [c], (pick (fun c => fromN p b ws (o ++ [c])) (signsAt p[i]) r0).2) | none => (o, (pick (fun c => fromN p b ws (o ++ [c])) (signsAt p[i]) r0).2)) := ⟨by rw [HST.out]; rfl⟩
      clear HST
      generalize signsAt p[i] = sg at HPS sgl SGA hsg
      obtain ⟨k0, k1, k2⟩ := box3_cells HX1.out
      rcases hsg with ⟨rfl, esg⟩ | ⟨rfl, esg⟩
      focus
        have HES := Aside0.mk esg
        clear esg
        go_wp2
        rw [HES.out]
      rotate_left
      focus
        have HES := Aside0.mk esg
        clear esg
        go_wp2
        rw [HES.out]
      rotate_left
      all_goals
        clear k0 k1 k2 hnx
        have hsgz := str_size sg
        go_loopg [1, 5] (sg.length + 1) (fun gg v1 v5 wr => ∃ k r1 : Nat, v1 = .int .i64 r1 ∧ v5 = .string (str o) ∧ k ≤ sg.length ∧ sg.length - k < gg ∧ r1 ≤ 208827064576 ∧ Aside0 (pick (fun c => fromN p b ws (o ++ [c])) (sg.drop k) r1 = pick (fun c => fromN p b ws (o ++ [c])) sg r0) ∧ Aside0 (Walker wr V1.heap.size (str sg) k) ∧ Aside0 (Walker wr (w.heap.size + 1) (str p) (i + 1)) ∧ Aside0 (wr.heap[w.heap.size]? = some (boxS p b A ws.length c)) ∧ Aside0 (Below w.heap.size w wr))
        case atStart => exact ⟨0, r0, rfl, rfl, by omega, by omega, by omega, ⟨rfl⟩, ⟨by have := walker_new (stand V1 (w.heap.size + 1) (str p) (i + 1)) (str sg); rwa [hss] at this⟩, ⟨block_iter HW1.out⟩, ⟨block_iter HX1.out⟩, ⟨below_iter HB1.out (by rw [hss]; have := HLT.out; omega) _ _⟩⟩
        case round =>
          rename World => V2
          obtain ⟨k, r1, rfl, rfl, j1, j2, j3, HPK, HWS, HWP, HX2, HB2⟩ := hrel
          by_cases hk : k < sg.length
          · have hnx : ∀ ty, (Instr.next (.pointer (some ⟨V1.heap.size, 0, none⟩)) true ty).run Tryd.prog V2 = _ := fun ty => next_digit V2 V1.heap.size (str sg) k ty HWS.out (by rw [str_size]; exact hk) (SGA.out _ (by show sg[k] ∈ sg; exact List.getElem_mem hk))
            have HPD := HPK.out
            rw [pick_drop _ sg k r1 hk] at HPD
            have HPD := Aside0.mk HPD
            have ex := extract_one sg k hk
            obtain ⟨ch, hch⟩ : ∃ ch, ch = sg[k] := ⟨_, rfl⟩
            rw [← hch] at ex HPD
            clear hch HPK
            have eap : str o ++ str [ch] = str (o ++ [ch]) := str_append _ _
            have hslc : ∀ W : World, (Instr.slice 9 (.string (str sg)) (some (.int .i64 (k : Int))) (some (.int .i64 ((k : Int) + 1))) none).run Tryd.prog W = .ok (.string (str [ch])) W := fun W => by
              rw [run_slice_string_if _ _ _ _ _ _ _ (by kernel_rfl), if_pos ⟨by omega, by rw [str_size]; omega⟩, if_pos ⟨by omega, by omega⟩, show ((k : Int) + 1).toNat = k + 1 by omega, Int.toNat_natCast, ex]
            have hv := fromN_le b ws (o ++ [ch]) p8
            have HFR := Aside0.mk (fun W (h : Texts W A c ws) => plFrom_any HG.out (o ++ [ch]) (by rw [List.length_append, List.length_singleton]; omega) W h)
            obtain ⟨V, hV⟩ : ∃ V, V = fromN p b ws (o ++ [ch]) := ⟨_, rfl⟩
            rw [← hV] at hv HFR HPD
            clear hV
            have ewi : IntKind.i64.wrap ((k : Int) + 1) = (k : Int) + 1 := IntWalk.i64_in _ (by omega)
            have eni : ((k : Int) + 1).toNat = k + 1 := by omega
            have hi1 : ((k : Int) + 1 ≤ sg.length) = True := by simp; omega
            have hi2 : ((k : Int) ≤ k + 1) = True := by simp; omega
            have hi3 : (0 ≤ (k : Int) + 1) = True := by simp; omega
            have hi4 : (k + 1 ≤ sg.length) = True := by simp; omega
            have hcat : (9223372036854775807 < o.length + 1) = False := by simp; omega
            go_wp2
            clear hnx
            have hne : w.heap.size + 1 ≠ V1.heap.size := Nat.ne_of_lt HLT.out
            have HB4 := Aside0.mk (below_stand HB2.out (b := V1.heap.size) (by have := HLT.out; omega) (str sg) (k + 1))
            have HWS4 := Aside0.mk (walker_stand HWS.out (k + 1))
            have HWP4 : Aside0 (Walker (stand V2 V1.heap.size (str sg) (k + 1)) (w.heap.size + 1) (str p) (i + 1)) := ⟨block_stand HWP.out hne⟩
            have HX4 := Aside0.mk (block_stand (b := V1.heap.size) (s := str sg) (p := k + 1) HX2.out (by have := HLT.out; omega))
            clear hne HB2 HWS HWP HX2
            generalize stand V2 V1.heap.size (str sg) (k + 1) = w4 at HB4 HWS4 HWP4 HX4 ⊢
            have HB3 := Aside0.mk (below_drew1 HB4.out)
            have HWS3 : Aside0 (Walker w4.drew V1.heap.size (str sg) (k + 1)) := ⟨HWS4.out⟩
            have HWP3 : Aside0 (Walker w4.drew (w.heap.size + 1) (str p) (i + 1)) := ⟨HWP4.out⟩
            have HX3 : Aside0 (w4.drew.heap[w.heap.size]? = some (boxS p b A ws.length c)) := ⟨HX4.out⟩
            clear HB4 HWS4 HWP4 HX4
            refine start_ (n := 10) (S := fun w' => w'.cell? ⟨w.heap.size, 0, none⟩ = some (.string (str p)) ∧ w'.cell? ⟨w.heap.size, 1, none⟩ = some (.string (str b)) ∧ w'.cell? ⟨w.heap.size, 2, none⟩ = some (.slice A ws.length c)) (ds := []) #[false, false, false, false, false, false, false, false, false, false] (by kernel_rfl) rfl rfl (box3_cells HX3.out) (fun hHeld => ?_); refine with_tabW plRanked.tab11 plRanked.bits11 (fun HT_ HW_ => ?_)
            generalize w4.drew = w5 at HB3 HWS3 HWP3 HX3 hHeld ⊢
            refine take_ (i := 0) (N := some 26) (v := ?_) (a' := ?_) #[true, false, false, false, false, false, false, false, false, false] rfl rfl (take_ofW HT_.out HW_.out (by kernel_rfl)) (fun _ _ _ h => h) (Or.inl ⟨by rfl, ?_⟩) hHeld ?_ ?_
            rotate_left
            · rintro w' ⟨s0, s1, s2⟩
              go_simp
              with_reducible rfl
            rotate_left
            · simp only [Act.put, List.setIfInBounds_toArray, List.set_cons_zero, List.set_cons_succ, i64_w, i32_w]
              rfl
            refine pure_ (i := 1) (N := some 27) (v := ?_) (a' := ?_) #[true, true, false, false, false, false, false, false, false, false] rfl rfl (any_of HT_.out (by kernel_rfl)) (fun _ _ _ h => h) (Or.inl ⟨by rfl, ?_⟩) ?_ ?_
            rotate_left
            · intro w'
              go_simp
              with_reducible rfl
            rotate_left
            · simp only [Act.put, List.setIfInBounds_toArray, List.set_cons_zero, List.set_cons_succ, i64_w, i32_w]
              rfl
            refine pure_ (i := 2) (N := some 28) (v := ?_) (a' := ?_) #[true, true, true, false, false, false, false, false, false, false] rfl rfl (any_of HT_.out (by kernel_rfl)) (fun _ _ _ h => h) (Or.inl ⟨by rfl, ?_⟩) ?_ ?_
            rotate_left
            · intro w'
              go_simp
              with_reducible rfl
            rotate_left
            · simp only [Act.put, List.setIfInBounds_toArray, List.set_cons_zero, List.set_cons_succ, i64_w, i32_w]
              rfl
            refine pure_ (i := 3) (N := some 29) (v := ?_) (a' := ?_) #[true, true, true, true, false, false, false, false, false, false] rfl rfl (any_of HT_.out (by kernel_rfl)) (fun _ _ _ h => h) (Or.inl ⟨by rfl, ?_⟩) ?_ ?_
            rotate_left
            · intro w'
              go_simp
              with_reducible rfl
            rotate_left
            · simp only [Act.put, List.setIfInBounds_toArray, List.set_cons_zero, List.set_cons_succ, i64_w, i32_w]
              rfl
            refine pure_ (i := 4) (N := some 30) (v := ?_) (a' := ?_) #[true, true, true, true, true, false, false, false, false, false] rfl rfl (any_of HT_.out (by kernel_rfl)) (fun _ _ _ h => h) (Or.inl ⟨by rfl, ?_⟩) ?_ ?_
            rotate_left
            · intro w'
              go_simp
              with_reducible rfl
            rotate_left
            · simp only [Act.put, List.setIfInBounds_toArray, List.set_cons_zero, List.set_cons_succ, i64_w, i32_w]
              rfl
            refine pure_ (i := 5) (N := some 31) (v := ?_) (a' := ?_) #[true, true, true, true, true, true, false, false, false, false] rfl rfl (any_of HT_.out (by kernel_rfl)) (fun _ _ _ h => h) (Or.inl ⟨by rfl, ?_⟩) ?_ ?_
            rotate_left
            · intro w'
              go_simp
              with_reducible rfl
            rotate_left
            · simp only [Act.put, List.setIfInBounds_toArray, List.set_cons_zero, List.set_cons_succ, i64_w, i32_w]
              rfl
            refine pure_ (i := 6) (N := some 32) (v := ?_) (a' := ?_) #[true, true, true, true, true, true, true, false, false, false] rfl rfl (any_of HT_.out (by kernel_rfl)) (fun _ _ _ h => h) (Or.inl ⟨by rfl, ?_⟩) ?_ ?_
            rotate_left
            · intro w'
              go_simp
              with_reducible rfl
            rotate_left
            · simp only [Act.put, List.setIfInBounds_toArray, List.set_cons_zero, List.set_cons_succ, i64_w, i32_w]
              rfl
            refine pure_ (i := 7) (N := some 33) (v := ?_) (a' := ?_) #[true, true, true, true, true, true, true, true, false, false] rfl rfl (any_of HT_.out (by kernel_rfl)) (fun _ _ _ h => h) (Or.inl ⟨by rfl, ?_⟩) ?_ ?_
            rotate_left
            · intro w'
              go_simp
              with_reducible rfl
            rotate_left
            · simp only [Act.put, List.setIfInBounds_toArray, List.set_cons_zero, List.set_cons_succ, i64_w, i32_w]
              rfl
            refine one_ (i := 8) (N := some 34) #[true, true, true, true, true, true, true, true, true, false] rfl rfl (one_of HT_.out (by kernel_rfl)) (by decide) (fun K hK => ?_)
            refine goes_ Tryd.func57 (by kernel_rfl) rfl #[.agg #[.string (str p), .string (str b), .slice A ws.length c], .string (str (o ++ [ch]))] (by rfl) rfl rfl (by (try simp only [List.map_toArray, List.map_cons, List.map_nil]); first | done | rfl) ?_
            refine (HFR.out _ (texts_below HT.out HB3.out)).mono ?_
            rintro e w8 ⟨rfl, hb8⟩
            have HB8 := Aside0.mk (HB3.out.trans (hb8.mono HB3.out.size))
            have HX8 := Aside0.mk (below_box hb8 HX3.out)
            have HWS8 := Aside0.mk (walker_below HWS3.out hb8 HWS3.out.lt)
            have HWP8 := Aside0.mk (walker_below HWP3.out hb8 HWP3.out.lt)
            clear hb8
            refine ⟨_, rfl, ?_⟩
            refine hK.out _ _ (box3_cells HX8.out) (fun hHeld => ?_)
            clear hK K
            refine norm_ (a' := ?_) ?_ ?_
            rotate_left
            · show Act.put _ (some 34) _ = _
              simp only [Act.put, List.setIfInBounds_toArray, List.set_cons_zero, List.set_cons_succ, i64_w, i32_w]
              rfl
            refine pure_ (i := 9) (N := some 9) (v := ?_) (a' := ?_) #[true, true, true, true, true, true, true, true, true, true] rfl rfl (any_of HT_.out (by kernel_rfl)) (fun _ _ _ h => h) (Or.inl ⟨by rfl, ?_⟩) ?_ ?_
            rotate_left
            · intro w'
              go_simp
              with_reducible rfl
            rotate_left
            · simp only [Act.put, List.setIfInBounds_toArray, List.set_cons_zero, List.set_cons_succ, i64_w, i32_w]
              rfl
            refine done_ (done_of HT_.out (by kernel_rfl)) ?_
            by_cases hlt : r1 < V
            · rw [if_pos hlt] at HPD
              have hlt2 : ((r1 : Int) < V) = True := by simp; omega
              clear hlt
              go_wp2
              have HE : Aside0 (rankedTo p b ws R (i + 1) = (o ++ [ch], r1)) := ⟨by rw [HPS.out, ← HPD.out]⟩
              go_roundg (p.length - i)
              case measure => omega
              case rel => exact ⟨i + 1, by rw [HE.out], by rw [HE.out], by omega, by omega, HWP8, HX8, HB8⟩
            · rw [if_neg hlt] at HPD
              have hlt2 : ((r1 : Int) < V) = False := by simp; omega
              have hle : V ≤ r1 := by omega
              have er : wrap64 ((r1 : Int) - V) = ((r1 - V : Nat) : Int) := by rw [wi (by omega) (by omega)]; omega
              clear hlt
              go_wp2
              go_roundg (sg.length - k)
              case measure => omega
              case rel => exact ⟨k + 1, r1 - V, congrArg (Value.int .i64) (by omega), rfl, by omega, by omega, by omega, HPD, HWS8, HWP8, HX8, HB8⟩
          · obtain rfl : k = sg.length := by omega
            have hnx : ∀ ty, (Instr.next (.pointer (some ⟨V1.heap.size, 0, none⟩)) true ty).run Tryd.prog V2 = _ := fun ty => next_none V2 V1.heap.size (str sg) sg.length ty HWS.out (by rw [str_size]; omega)
            have HPD := HPK.out
            rw [List.drop_length, pick_nil] at HPD
            have HE : Aside0 (rankedTo p b ws R (i + 1) = (o, r1)) := ⟨by rw [HPS.out, ← HPD]⟩
            clear HPD
            go_wp2
            go_roundg (p.length - i)
            case measure => omega
            case rel => exact ⟨i + 1, by rw [HE.out], by rw [HE.out], by omega, by omega, HWP, HX2, HB2⟩
    · obtain rfl : i = p.length := by omega
      have hnx : ∀ ty, (Instr.next (.pointer (some ⟨w.heap.size + 1, 0, none⟩)) true ty).run Tryd.prog V1 = _ := fun ty => next_none V1 (w.heap.size + 1) (str p) p.length ty HW.out (by rw [hsp]; omega)
      go_wp2
      go_ret
      exact ⟨rfl, HB.out⟩
end Go.Proofs.YtoieadofldkccaaDoor.Plates
