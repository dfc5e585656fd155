/-
  Plates: spec.plRank counts the plates that come before one.
-/
import Derived.Test.YtoieadofldkccaaDoorHPIs
import Derived.Laws.Runes
namespace Go.Proofs.YtoieadofldkccaaDoor.Plates
open Go.RowKit Go.Proofs.YtoieadofldkccaaDoorW.PrintWords Go.Proofs.YtoieadofldkccaaDoorW.PrintLast Go.Proofs.YtoieadofldkccaaDoorW.PrintMore Go.Proofs.YtoieadofldkccaaDoor.PFnExactCountBeginning
open PFake (ML ml_below)
set_option linter.unusedVariables false
set_option linter.unusedSimpArgs false

/-- the box of a scheme, as an object -/
abbrev boxS (p b : T) (A : Option Addr) (n c : Nat) : Obj := .cells #[.string (str p), .string (str b), .slice A n c] 28 (0, 0)
theorem encode_low (c : UInt8) (h : c.toNat < 128) : Utf8.encode (c.toNat : Int) = str [c] := by
  have hv : Utf8.valid (c.toNat : Int) = true := by unfold Utf8.valid; simp; omega
  unfold Utf8.encode
  rw [if_pos hv]
  simp only [Int.toNat_natCast]
  rw [if_pos h, UInt8.ofNat_toNat]

theorem q_32 (q : Nat) (h : q ≤ 90) : wrap32 (q : Int) = q := by unfold wrap32; omega
theorem q_8 (q : Nat) (h : q ≤ 90) : IntKind.u8.wrap ((q : Int) + 1) = ((q + 1 : Nat) : Int) := by rw [IntKind.wrap_u8]; omega

def plRank.T11 : Bool × List (List Nat × List Nat) := (true, [([], []), ([], []), ([], []), ([], []), ([2, 3], [2, 3]), ([], []), ([5], [5]), ([6], [6]), ([4, 7], [4, 7]), ([1, 8], [1, 8]), ([0, 9], [0, 9]), ([10, 9, 0, 1, 2, 3, 4, 5, 6, 7, 8, 9, 10], [0, 10])])
def plRank.B11 : List Nat := [0, 0, 0, 0, 12, 0, 32, 96, 252, 510, 1023, 2047]
theorem plRank.tab11 : rtab .any (opsOf Tryd.f43 11) = plRank.T11 := by kernel_rfl
theorem plRank.bits11 : waitsOk plRank.T11.2 plRank.B11 = true := by kernel_rfl

set_option maxRecDepth 100000 in
set_option maxHeartbeats 8000000 in
theorem plRank_any {p b : T} {ws : List T} (G : Good p b ws) {A : Option Addr} {c : Nat} (t : T) (hF : Fits p b t) (w : World) (hT : Texts w A c ws) :
    Calls Tryd.prog 43 #[.agg #[.string (str p), .string (str b), .slice A ws.length c], .string (str t)] w fun e w' => e = .returned (.int .i64 (rankN p b ws t : Nat)) ∧ Below w.heap.size w w' := by
  have hsp := str_size p
  have hsz := str_size t
  have p8 := G.p8
  have hl := G.w3
  have ht := hF.1
  have HTS : Aside0 (∀ c ∈ t, c.toNat < 128) := ⟨fun c hc => sign_ascii (fits_sign hF c hc)⟩
  have HFF := Aside0.mk hF
  have HT := Aside0.mk hT
  have HG := Aside0.mk G
  clear hT G hF
  go_enter Tryd.func43, Tryd.ntmps43
  go_wp2
  go_loopg [5] (t.length + 1) (fun gg v5 wr => ∃ i : Nat, v5 = .int .i64 (rankTo p b ws t i : Nat) ∧ i ≤ t.length ∧ t.length - i < gg ∧ Aside0 (Walker wr (w.heap.size + 1) (str t) i) ∧ Aside0 (wr.heap[w.heap.size]? = some (boxS p b A ws.length c)) ∧ Aside0 (Below w.heap.size w wr))
  case atStart => exact ⟨0, rfl, by omega, by omega, ⟨by have := walker_new (w.alloc (boxS p b A ws.length c)) (str t); rwa [al_size] at this⟩, ⟨block_iter (al_new _ _ _ rfl)⟩, ⟨below_iter ((Below.refl _ w).alloc (Nat.le_refl _) _) (by rw [al_size]; omega) _ _⟩⟩
  case round =>
    rename World => V1
    obtain ⟨i, rfl, i1, i2, HW, HX, HB⟩ := hrel
    by_cases hi : i < t.length
    · have hip : i < p.length := by omega
      have hnx : ∀ ty, (Instr.next (.pointer (some ⟨w.heap.size + 1, 0, none⟩)) true ty).run Tryd.prog V1 = _ := fun ty => next_digit V1 (w.heap.size + 1) (str t) i ty HW.out (by rw [hsz]; exact hi) (HTS.out _ (by show t[i] ∈ t; exact List.getElem_mem hi))
      have hmem : Aside0 (t[i] ∈ signsAt p[i]) := ⟨(List.mem_filter.1 (HFF.out.2 i hi hip)).1⟩
      have hlow := signs_low p[i] t[i] hmem.out
      have hrb := rankTo_le b ws t p8 i
      have HRS : Aside0 (rankTo p b ws t (i + 1) = rankTo p b ws t i + before p b ws t i) := ⟨by rw [rankTo]⟩
      have HBL := Aside0.mk (before_low p b ws t i (by rw [getD_of t i hi, getD_of p i hip]; exact hmem.out))
      rw [getD_of t i hi, getD_of p i hip] at HBL
      have HGT := Aside0.mk (fun (k : Nat) (hh : k < (signsAt (p[i]'hip)).length) => signs_get (p[i]'hip) k hh)
      have HSK := Aside0.mk (fun k => sumK_succ (fun c => fromN p b ws (t.take i ++ [c])) (signsAt p[i]) k)
      have HSL := Aside0.mk (fun k => sumK_le (fun c => fromN p b ws (t.take i ++ [c])) (signsAt p[i]) k 208827064576 (fun c => fromN_le b ws _ p8))
      have hsl := signsAt_length p[i]
      have hpx := HG.out.pat p[i] (List.getElem_mem hip)
      obtain ⟨m, hm⟩ : ∃ m, m = t[i].toNat := ⟨_, rfl⟩
      obtain ⟨pm, hpm⟩ : ∃ pm, pm = p[i].toNat := ⟨_, rfl⟩
      obtain ⟨lo, hlo⟩ : ∃ lo, lo = lowAt p[i] := ⟨_, rfl⟩
      have hbt : ((str t)[i]'(by rw [str_size]; exact hi)).toNat = m := hm.symm
      have hbp : ((str p)[i]'(by rw [str_size]; exact hip)).toNat = pm := hpm.symm
      rw [← hm, ← hlo] at hlow HBL
      rw [← hlo] at HGT
      have hlo2 : (p[i] = 76 ∧ lo = 65 ∧ pm = 76) ∨ (p[i] = 68 ∧ lo = 48 ∧ pm = 68) := by
        rcases hpx with e | e
        · exact .inl ⟨e, by rw [hlo, e]; rfl, by rw [hpm, e]; rfl⟩
        · exact .inr ⟨e, by rw [hlo, e]; rfl, by rw [hpm, e]; rfl⟩
      clear hm hpm hlo hpx
      generalize signsAt p[i] = sg at HBL HGT HSK HSL hsl hlow hmem
      generalize rankTo p b ws t i = R0 at hrb HRS ⊢
      obtain ⟨k0, k1, k2⟩ := box3_cells (block_stand (b := w.heap.size + 1) (s := str t) (p := i + 1) HX.out (by omega))
      rcases hlo2 with ⟨e76, rfl, rfl⟩ | ⟨e68, rfl, rfl⟩
      · clear e76
        go_wp2
        clear k0 k1 k2
        go_loopg [5, 8] (27 : Nat) (fun gg v5 v8 wr => ∃ k : Nat, v5 = .int .i64 (R0 + sumK (fun c => fromN p b ws (t.take i ++ [c])) sg k : Nat) ∧ v8 = .int .u8 ((65 + k : Nat) : Int) ∧ k ≤ m - 65 ∧ m - 65 - k < gg ∧ Aside0 (Walker wr (w.heap.size + 1) (str t) (i + 1)) ∧ Aside0 (wr.heap[w.heap.size]? = some (boxS p b A ws.length c)) ∧ Aside0 (Below w.heap.size w wr))
        case atStart => exact ⟨0, rfl, rfl, by omega, by omega, ⟨walker_stand HW.out (i + 1)⟩, ⟨block_stand HX.out (by omega)⟩, ⟨below_stand HB.out (by omega) _ _⟩⟩
        case round =>
          rename World => V2
          obtain ⟨k, rfl, rfl, j1, j2, HW2, HX2, HB2⟩ := hrel
          by_cases hk : k < m - 65
          · have hks : k < sg.length := by omega
            have hq := HGT.out k hks
            have HSU := Aside0.mk (HSK.out k hks)
            have hsl1 := HSL.out k
            have hsl2 : sumK (fun c => fromN p b ws (t.take i ++ [c])) sg k ≤ 5429503678976 := by omega
            clear hsl1
            have hlt : (((65 + k : Nat) : Int) < m) = True := by simp; omega
            have hch7 : sg[k].toNat < 128 := by omega
            have henc := encode_low sg[k] hch7
            rw [hq] at henc
            obtain ⟨ch, hch⟩ : ∃ ch, ch = sg[k] := ⟨_, rfl⟩
            have HSU2 : Aside0 (sumK (fun c => fromN p b ws (t.take i ++ [c])) sg (k + 1) = sumK (fun c => fromN p b ws (t.take i ++ [c])) sg k + fromN p b ws (t.take i ++ [ch])) := ⟨by rw [hch]; exact HSU.out⟩
            rw [← hch] at henc
            clear hch HSU hq hch7
            have hv := fromN_le b ws (t.take i ++ [ch]) p8
            have HFR := Aside0.mk (fun W (h : Texts W A c ws) => plFrom_any HG.out (t.take i ++ [ch]) (by rw [List.length_append, List.length_take, List.length_singleton]; omega) W h)
            generalize fromN p b ws (t.take i ++ [ch]) = V at HSU2 hv HFR
            generalize sumK (fun c => fromN p b ws (t.take i ++ [c])) sg k = M at HSU2 hsl2 ⊢
            have ex := extract_take t i
            have eap : str (t.take i) ++ str [ch] = str (t.take i ++ [ch]) := str_append _ _
            have eMV : wrap64 ((R0 : Int) + M + V) = ((R0 + M + V : Nat) : Int) := by rw [wi (by omega) (by omega)]; omega
            have hcat : (9223372036854775807 < i + 1) = False := by simp; omega
            obtain ⟨q, hq⟩ : ∃ q, q = 65 + k := ⟨_, rfl⟩
            rw [← hq] at henc hlt ⊢
            have q90 : q ≤ 90 := by omega
            have e32 := q_32 q q90
            have e8 := q_8 q q90
            have HQ := Aside0.mk hq
            clear hq
            go_wp2
            have HW3 : Aside0 (Walker V2.drew (w.heap.size + 1) (str t) (i + 1)) := ⟨HW2.out⟩
            have HX3 : Aside0 (V2.drew.heap[w.heap.size]? = some (boxS p b A ws.length c)) := ⟨HX2.out⟩
            have HB3 := Aside0.mk (below_drew1 HB2.out)
            refine start_ (n := 12) (S := fun w' => w'.cell? ⟨w.heap.size, 0, none⟩ = some (.string (str p)) ∧ w'.cell? ⟨w.heap.size, 1, none⟩ = some (.string (str b)) ∧ w'.cell? ⟨w.heap.size, 2, none⟩ = some (.slice A ws.length c)) (ds := []) #[false, false, false, false, false, false, false, false, false, false, false, false] (by kernel_rfl) rfl rfl (box3_cells HX3.out) (fun hHeld => ?_); refine with_tabW plRank.tab11 plRank.bits11 (fun HT_ HW_ => ?_)
            generalize V2.drew = w5 at HW3 HX3 HB3 hHeld ⊢
            refine pure_ (i := 0) (N := some 27) (v := ?_) (a' := ?_) #[true, false, false, false, false, false, false, false, false, false, false, false] rfl rfl (any_of HT_.out (by kernel_rfl)) (fun _ _ _ h => h) (Or.inl ⟨by rfl, ?_⟩) ?_ ?_
            rotate_left
            · intro w'
              go_simp
              with_reducible rfl
            rotate_left
            · simp only [Act.put, List.setIfInBounds_toArray, List.set_cons_zero, List.set_cons_succ, i64_w, i32_w]
              rfl
            refine take_ (i := 1) (N := some 28) (v := ?_) (a' := ?_) #[true, true, false, false, false, false, false, false, false, false, false, false] rfl rfl (take_ofW HT_.out HW_.out (by kernel_rfl)) (fun _ _ _ h => h) (Or.inl ⟨by rfl, ?_⟩) hHeld ?_ ?_
            rotate_left
            · rintro w' ⟨s0, s1, s2⟩
              go_simp
              with_reducible rfl
            rotate_left
            · simp only [Act.put, List.setIfInBounds_toArray, List.set_cons_zero, List.set_cons_succ, i64_w, i32_w]
              rfl
            refine pure_ (i := 2) (N := some 29) (v := ?_) (a' := ?_) #[true, true, true, false, false, false, false, false, false, false, false, false] rfl rfl (any_of HT_.out (by kernel_rfl)) (fun _ _ _ h => h) (Or.inl ⟨by rfl, ?_⟩) ?_ ?_
            rotate_left
            · intro w'
              go_simp
              with_reducible rfl
            rotate_left
            · simp only [Act.put, List.setIfInBounds_toArray, List.set_cons_zero, List.set_cons_succ, i64_w, i32_w]
              rfl
            refine pure_ (i := 3) (N := some 30) (v := ?_) (a' := ?_) #[true, true, true, true, false, false, false, false, false, false, false, false] rfl rfl (any_of HT_.out (by kernel_rfl)) (fun _ _ _ h => h) (Or.inl ⟨by rfl, ?_⟩) ?_ ?_
            rotate_left
            · intro w'
              go_simp
              with_reducible rfl
            rotate_left
            · simp only [Act.put, List.setIfInBounds_toArray, List.set_cons_zero, List.set_cons_succ, i64_w, i32_w]
              rfl
            refine pure_ (i := 4) (N := some 31) (v := ?_) (a' := ?_) #[true, true, true, true, true, false, false, false, false, false, false, false] rfl rfl (any_of HT_.out (by kernel_rfl)) (fun _ _ _ h => h) (Or.inl ⟨by rfl, ?_⟩) ?_ ?_
            rotate_left
            · intro w'
              go_simp
              with_reducible rfl
            rotate_left
            · simp only [Act.put, List.setIfInBounds_toArray, List.set_cons_zero, List.set_cons_succ, i64_w, i32_w]
              rfl
            refine pure_ (i := 5) (N := some 32) (v := ?_) (a' := ?_) #[true, true, true, true, true, true, false, false, false, false, false, false] rfl rfl (any_of HT_.out (by kernel_rfl)) (fun _ _ _ h => h) (Or.inl ⟨by rfl, ?_⟩) ?_ ?_
            rotate_left
            · intro w'
              go_simp
              with_reducible rfl
            rotate_left
            · simp only [Act.put, List.setIfInBounds_toArray, List.set_cons_zero, List.set_cons_succ, i64_w, i32_w]
              rfl
            refine pure_ (i := 6) (N := some 33) (v := ?_) (a' := ?_) #[true, true, true, true, true, true, true, false, false, false, false, false] rfl rfl (any_of HT_.out (by kernel_rfl)) (fun _ _ _ h => h) (Or.inl ⟨by rfl, ?_⟩) ?_ ?_
            rotate_left
            · intro w'
              go_simp
              with_reducible rfl
            rotate_left
            · simp only [Act.put, List.setIfInBounds_toArray, List.set_cons_zero, List.set_cons_succ, i64_w, i32_w]
              rfl
            refine pure_ (i := 7) (N := some 34) (v := ?_) (a' := ?_) #[true, true, true, true, true, true, true, true, false, false, false, false] rfl rfl (any_of HT_.out (by kernel_rfl)) (fun _ _ _ h => h) (Or.inl ⟨by rfl, ?_⟩) ?_ ?_
            rotate_left
            · intro w'
              go_simp
              with_reducible rfl
            rotate_left
            · simp only [Act.put, List.setIfInBounds_toArray, List.set_cons_zero, List.set_cons_succ, i64_w, i32_w]
              rfl
            refine pure_ (i := 8) (N := some 35) (v := ?_) (a' := ?_) #[true, true, true, true, true, true, true, true, true, false, false, false] rfl rfl (any_of HT_.out (by kernel_rfl)) (fun _ _ _ h => h) (Or.inl ⟨by rfl, ?_⟩) ?_ ?_
            rotate_left
            · intro w'
              go_simp
              with_reducible rfl
            rotate_left
            · simp only [Act.put, List.setIfInBounds_toArray, List.set_cons_zero, List.set_cons_succ, i64_w, i32_w]
              rfl
            refine one_ (i := 9) (N := some 36) #[true, true, true, true, true, true, true, true, true, true, false, false] rfl rfl (one_of HT_.out (by kernel_rfl)) (by decide) (fun K hK => ?_)
            refine goes_ Tryd.func57 (by kernel_rfl) rfl #[.agg #[.string (str p), .string (str b), .slice A ws.length c], .string (str (t.take i ++ [ch]))] (by rfl) rfl rfl (by (try simp only [List.map_toArray, List.map_cons, List.map_nil]); first | done | rfl) ?_
            refine (HFR.out _ (texts_below HT.out HB3.out)).mono ?_
            rintro e w8 ⟨rfl, hb8⟩
            have HB8 := Aside0.mk (HB3.out.trans (hb8.mono HB3.out.size))
            have HX8 := Aside0.mk (below_box hb8 HX3.out)
            have HW8 := Aside0.mk (walker_below HW3.out hb8 HW3.out.lt)
            clear hb8
            refine ⟨_, rfl, ?_⟩
            refine hK.out _ _ (box3_cells HX8.out) (fun hHeld => ?_)
            clear hK K
            refine norm_ (a' := ?_) ?_ ?_
            rotate_left
            · show Act.put _ (some 36) _ = _
              simp only [Act.put, List.setIfInBounds_toArray, List.set_cons_zero, List.set_cons_succ, i64_w, i32_w]
              rfl
            refine pure_ (i := 10) (N := some 37) (v := ?_) (a' := ?_) #[true, true, true, true, true, true, true, true, true, true, true, false] rfl rfl (any_of HT_.out (by kernel_rfl)) (fun _ _ _ h => h) (Or.inl ⟨by rfl, ?_⟩) ?_ ?_
            rotate_left
            · intro w'
              go_simp
              with_reducible rfl
            rotate_left
            · simp only [Act.put, List.setIfInBounds_toArray, List.set_cons_zero, List.set_cons_succ, i64_w, i32_w]
              rfl
            refine pure_ (i := 11) (N := some 5) (v := ?_) (a' := ?_) #[true, true, true, true, true, true, true, true, true, true, true, true] rfl rfl (any_of HT_.out (by kernel_rfl)) (fun _ _ _ h => h) (Or.inl ⟨by rfl, ?_⟩) ?_ ?_
            rotate_left
            · intro w'
              go_simp
              with_reducible rfl
            rotate_left
            · simp only [Act.put, List.setIfInBounds_toArray, List.set_cons_zero, List.set_cons_succ, i64_w, i32_w]
              rfl
            refine done_ (done_of HT_.out (by kernel_rfl)) ?_
            go_wp2
            go_roundg (m - 65 - k)
            case measure => omega
            case rel => exact ⟨k + 1, congrArg (Value.int .i64) (by rw [HSU2.out]; omega), congrArg (Value.int .u8) (by rw [HQ.out]; omega), by omega, by omega, HW8, HX8, HB8⟩
          · obtain rfl : k = m - 65 := by omega
            rw [HBL.out]
            have hlt : (((65 + (m - 65) : Nat) : Int) < m) = False := by simp; omega
            go_wp2
            go_roundg (t.length - i)
            case measure => omega
            case rel => exact ⟨i + 1, by rw [HRS.out], by omega, by omega, HW2, HX2, HB2⟩
      · clear e68
        go_wp2
        clear k0 k1 k2
        go_loopg [5, 8] (27 : Nat) (fun gg v5 v8 wr => ∃ k : Nat, v5 = .int .i64 (R0 + sumK (fun c => fromN p b ws (t.take i ++ [c])) sg k : Nat) ∧ v8 = .int .u8 ((48 + k : Nat) : Int) ∧ k ≤ m - 48 ∧ m - 48 - k < gg ∧ Aside0 (Walker wr (w.heap.size + 1) (str t) (i + 1)) ∧ Aside0 (wr.heap[w.heap.size]? = some (boxS p b A ws.length c)) ∧ Aside0 (Below w.heap.size w wr))
        case atStart => exact ⟨0, rfl, rfl, by omega, by omega, ⟨walker_stand HW.out (i + 1)⟩, ⟨block_stand HX.out (by omega)⟩, ⟨below_stand HB.out (by omega) _ _⟩⟩
        case round =>
          rename World => V2
          obtain ⟨k, rfl, rfl, j1, j2, HW2, HX2, HB2⟩ := hrel
          by_cases hk : k < m - 48
          · have hks : k < sg.length := by omega
            have hq := HGT.out k hks
            have HSU := Aside0.mk (HSK.out k hks)
            have hsl1 := HSL.out k
            have hsl2 : sumK (fun c => fromN p b ws (t.take i ++ [c])) sg k ≤ 5429503678976 := by omega
            clear hsl1
            have hlt : (((48 + k : Nat) : Int) < m) = True := by simp; omega
            have hch7 : sg[k].toNat < 128 := by omega
            have henc := encode_low sg[k] hch7
            rw [hq] at henc
            obtain ⟨ch, hch⟩ : ∃ ch, ch = sg[k] := ⟨_, rfl⟩
            have HSU2 : Aside0 (sumK (fun c => fromN p b ws (t.take i ++ [c])) sg (k + 1) = sumK (fun c => fromN p b ws (t.take i ++ [c])) sg k + fromN p b ws (t.take i ++ [ch])) := ⟨by rw [hch]; exact HSU.out⟩
            rw [← hch] at henc
            clear hch HSU hq hch7
            have hv := fromN_le b ws (t.take i ++ [ch]) p8
            have HFR := Aside0.mk (fun W (h : Texts W A c ws) => plFrom_any HG.out (t.take i ++ [ch]) (by rw [List.length_append, List.length_take, List.length_singleton]; omega) W h)
            generalize fromN p b ws (t.take i ++ [ch]) = V at HSU2 hv HFR
            generalize sumK (fun c => fromN p b ws (t.take i ++ [c])) sg k = M at HSU2 hsl2 ⊢
            have ex := extract_take t i
            have eap : str (t.take i) ++ str [ch] = str (t.take i ++ [ch]) := str_append _ _
            have eMV : wrap64 ((R0 : Int) + M + V) = ((R0 + M + V : Nat) : Int) := by rw [wi (by omega) (by omega)]; omega
            have hcat : (9223372036854775807 < i + 1) = False := by simp; omega
            obtain ⟨q, hq⟩ : ∃ q, q = 48 + k := ⟨_, rfl⟩
            rw [← hq] at henc hlt ⊢
            have q90 : q ≤ 90 := by omega
            have e32 := q_32 q q90
            have e8 := q_8 q q90
            have HQ := Aside0.mk hq
            clear hq
            go_wp2
            have HW3 : Aside0 (Walker V2.drew (w.heap.size + 1) (str t) (i + 1)) := ⟨HW2.out⟩
            have HX3 : Aside0 (V2.drew.heap[w.heap.size]? = some (boxS p b A ws.length c)) := ⟨HX2.out⟩
            have HB3 := Aside0.mk (below_drew1 HB2.out)
            refine start_ (n := 12) (S := fun w' => w'.cell? ⟨w.heap.size, 0, none⟩ = some (.string (str p)) ∧ w'.cell? ⟨w.heap.size, 1, none⟩ = some (.string (str b)) ∧ w'.cell? ⟨w.heap.size, 2, none⟩ = some (.slice A ws.length c)) (ds := []) #[false, false, false, false, false, false, false, false, false, false, false, false] (by kernel_rfl) rfl rfl (box3_cells HX3.out) (fun hHeld => ?_); refine with_tabW plRank.tab11 plRank.bits11 (fun HT_ HW_ => ?_)
            generalize V2.drew = w5 at HW3 HX3 HB3 hHeld ⊢
            refine pure_ (i := 0) (N := some 27) (v := ?_) (a' := ?_) #[true, false, false, false, false, false, false, false, false, false, false, false] rfl rfl (any_of HT_.out (by kernel_rfl)) (fun _ _ _ h => h) (Or.inl ⟨by rfl, ?_⟩) ?_ ?_
            rotate_left
            · intro w'
              go_simp
              with_reducible rfl
            rotate_left
            · simp only [Act.put, List.setIfInBounds_toArray, List.set_cons_zero, List.set_cons_succ, i64_w, i32_w]
              rfl
            refine take_ (i := 1) (N := some 28) (v := ?_) (a' := ?_) #[true, true, false, false, false, false, false, false, false, false, false, false] rfl rfl (take_ofW HT_.out HW_.out (by kernel_rfl)) (fun _ _ _ h => h) (Or.inl ⟨by rfl, ?_⟩) hHeld ?_ ?_
            rotate_left
            · rintro w' ⟨s0, s1, s2⟩
              go_simp
              with_reducible rfl
            rotate_left
            · simp only [Act.put, List.setIfInBounds_toArray, List.set_cons_zero, List.set_cons_succ, i64_w, i32_w]
              rfl
            refine pure_ (i := 2) (N := some 29) (v := ?_) (a' := ?_) #[true, true, true, false, false, false, false, false, false, false, false, false] rfl rfl (any_of HT_.out (by kernel_rfl)) (fun _ _ _ h => h) (Or.inl ⟨by rfl, ?_⟩) ?_ ?_
            rotate_left
            · intro w'
              go_simp
              with_reducible rfl
            rotate_left
            · simp only [Act.put, List.setIfInBounds_toArray, List.set_cons_zero, List.set_cons_succ, i64_w, i32_w]
              rfl
            refine pure_ (i := 3) (N := some 30) (v := ?_) (a' := ?_) #[true, true, true, true, false, false, false, false, false, false, false, false] rfl rfl (any_of HT_.out (by kernel_rfl)) (fun _ _ _ h => h) (Or.inl ⟨by rfl, ?_⟩) ?_ ?_
            rotate_left
            · intro w'
              go_simp
              with_reducible rfl
            rotate_left
            · simp only [Act.put, List.setIfInBounds_toArray, List.set_cons_zero, List.set_cons_succ, i64_w, i32_w]
              rfl
            refine pure_ (i := 4) (N := some 31) (v := ?_) (a' := ?_) #[true, true, true, true, true, false, false, false, false, false, false, false] rfl rfl (any_of HT_.out (by kernel_rfl)) (fun _ _ _ h => h) (Or.inl ⟨by rfl, ?_⟩) ?_ ?_
            rotate_left
            · intro w'
              go_simp
              with_reducible rfl
            rotate_left
            · simp only [Act.put, List.setIfInBounds_toArray, List.set_cons_zero, List.set_cons_succ, i64_w, i32_w]
              rfl
            refine pure_ (i := 5) (N := some 32) (v := ?_) (a' := ?_) #[true, true, true, true, true, true, false, false, false, false, false, false] rfl rfl (any_of HT_.out (by kernel_rfl)) (fun _ _ _ h => h) (Or.inl ⟨by rfl, ?_⟩) ?_ ?_
            rotate_left
            · intro w'
              go_simp
              with_reducible rfl
            rotate_left
            · simp only [Act.put, List.setIfInBounds_toArray, List.set_cons_zero, List.set_cons_succ, i64_w, i32_w]
              rfl
            refine pure_ (i := 6) (N := some 33) (v := ?_) (a' := ?_) #[true, true, true, true, true, true, true, false, false, false, false, false] rfl rfl (any_of HT_.out (by kernel_rfl)) (fun _ _ _ h => h) (Or.inl ⟨by rfl, ?_⟩) ?_ ?_
            rotate_left
            · intro w'
              go_simp
              with_reducible rfl
            rotate_left
            · simp only [Act.put, List.setIfInBounds_toArray, List.set_cons_zero, List.set_cons_succ, i64_w, i32_w]
              rfl
            refine pure_ (i := 7) (N := some 34) (v := ?_) (a' := ?_) #[true, true, true, true, true, true, true, true, false, false, false, false] rfl rfl (any_of HT_.out (by kernel_rfl)) (fun _ _ _ h => h) (Or.inl ⟨by rfl, ?_⟩) ?_ ?_
            rotate_left
            · intro w'
              go_simp
              with_reducible rfl
            rotate_left
            · simp only [Act.put, List.setIfInBounds_toArray, List.set_cons_zero, List.set_cons_succ, i64_w, i32_w]
              rfl
            refine pure_ (i := 8) (N := some 35) (v := ?_) (a' := ?_) #[true, true, true, true, true, true, true, true, true, false, false, false] rfl rfl (any_of HT_.out (by kernel_rfl)) (fun _ _ _ h => h) (Or.inl ⟨by rfl, ?_⟩) ?_ ?_
            rotate_left
            · intro w'
              go_simp
              with_reducible rfl
            rotate_left
            · simp only [Act.put, List.setIfInBounds_toArray, List.set_cons_zero, List.set_cons_succ, i64_w, i32_w]
              rfl
            refine one_ (i := 9) (N := some 36) #[true, true, true, true, true, true, true, true, true, true, false, false] rfl rfl (one_of HT_.out (by kernel_rfl)) (by decide) (fun K hK => ?_)
            refine goes_ Tryd.func57 (by kernel_rfl) rfl #[.agg #[.string (str p), .string (str b), .slice A ws.length c], .string (str (t.take i ++ [ch]))] (by rfl) rfl rfl (by (try simp only [List.map_toArray, List.map_cons, List.map_nil]); first | done | rfl) ?_
            refine (HFR.out _ (texts_below HT.out HB3.out)).mono ?_
            rintro e w8 ⟨rfl, hb8⟩
            have HB8 := Aside0.mk (HB3.out.trans (hb8.mono HB3.out.size))
            have HX8 := Aside0.mk (below_box hb8 HX3.out)
            have HW8 := Aside0.mk (walker_below HW3.out hb8 HW3.out.lt)
            clear hb8
            refine ⟨_, rfl, ?_⟩
            refine hK.out _ _ (box3_cells HX8.out) (fun hHeld => ?_)
            clear hK K
            refine norm_ (a' := ?_) ?_ ?_
            rotate_left
            · show Act.put _ (some 36) _ = _
              simp only [Act.put, List.setIfInBounds_toArray, List.set_cons_zero, List.set_cons_succ, i64_w, i32_w]
              rfl
            refine pure_ (i := 10) (N := some 37) (v := ?_) (a' := ?_) #[true, true, true, true, true, true, true, true, true, true, true, false] rfl rfl (any_of HT_.out (by kernel_rfl)) (fun _ _ _ h => h) (Or.inl ⟨by rfl, ?_⟩) ?_ ?_
            rotate_left
            · intro w'
              go_simp
              with_reducible rfl
            rotate_left
            · simp only [Act.put, List.setIfInBounds_toArray, List.set_cons_zero, List.set_cons_succ, i64_w, i32_w]
              rfl
            refine pure_ (i := 11) (N := some 5) (v := ?_) (a' := ?_) #[true, true, true, true, true, true, true, true, true, true, true, true] rfl rfl (any_of HT_.out (by kernel_rfl)) (fun _ _ _ h => h) (Or.inl ⟨by rfl, ?_⟩) ?_ ?_
            rotate_left
            · intro w'
              go_simp
              with_reducible rfl
            rotate_left
            · simp only [Act.put, List.setIfInBounds_toArray, List.set_cons_zero, List.set_cons_succ, i64_w, i32_w]
              rfl
            refine done_ (done_of HT_.out (by kernel_rfl)) ?_
            go_wp2
            go_roundg (m - 48 - k)
            case measure => omega
            case rel => exact ⟨k + 1, congrArg (Value.int .i64) (by rw [HSU2.out]; omega), congrArg (Value.int .u8) (by rw [HQ.out]; omega), by omega, by omega, HW8, HX8, HB8⟩
          · obtain rfl : k = m - 48 := by omega
            rw [HBL.out]
            have hlt : (((48 + (m - 48) : Nat) : Int) < m) = False := by simp; omega
            go_wp2
            go_roundg (t.length - i)
            case measure => omega
            case rel => exact ⟨i + 1, by rw [HRS.out], by omega, by omega, HW2, HX2, HB2⟩
    · obtain rfl : i = t.length := by omega
      have hnx : ∀ ty, (Instr.next (.pointer (some ⟨w.heap.size + 1, 0, none⟩)) true ty).run Tryd.prog V1 = _ := fun ty => next_none V1 (w.heap.size + 1) (str t) t.length ty HW.out (by rw [hsz]; omega)
      go_wp2
      go_ret
      exact ⟨rfl, HB.out⟩
end Go.Proofs.YtoieadofldkccaaDoor.Plates
