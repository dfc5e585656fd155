/-
  Plates: spec.plFrom counts the plates that begin with signs.
-/
import Derived.Test.YtoieadofldkccaaDoorHPRow
import Derived.Laws.DeepStrings4
namespace Go.Proofs.YtoieadofldkccaaDoor.Plates
open Go.RowKit Go.Proofs.YtoieadofldkccaaDoorW.PrintWords Go.Proofs.YtoieadofldkccaaDoorW.PrintLast Go.Proofs.YtoieadofldkccaaDoorW.PrintMore Go.Proofs.YtoieadofldkccaaDoor.PFnExactCountBeginning
set_option linter.unusedVariables false
set_option linter.unusedSimpArgs false

open Classical in
/-- how many plates begin with signs -/
noncomputable def fromN (p b : T) (ws : List T) (t : T) : Nat := if Fits p b t ∧ Clean ws t then cnt b ws (p.drop t.length) t else 0

theorem Row.iter {W : World} {B n : Nat} {f : Nat → Nat} (h : Row W B n f) (s : ByteArray) (q : Nat) : Row (W.iter s q) B n f := by
  obtain ⟨arr, h, hv⟩ := h
  exact ⟨arr, block_iter h, hv⟩
theorem Row.stand {W : World} {B n b : Nat} {f : Nat → Nat} (h : Row W B n f) (e : B ≠ b) (s : ByteArray) (q : Nat) : Row (stand W b s q) B n f := by
  obtain ⟨arr, h, hv⟩ := h
  exact ⟨arr, block_stand h e, hv⟩
theorem walker_set {W : World} {b q : Nat} {s : ByteArray} (h : Walker W b s q) (a : Addr) (v : Value) (e : b ≠ a.block) : Walker (W.setCell a v) b s q := by
  unfold Walker; rw [Below.heap_setCell _ _ _ _ e]; exact h
theorem clean_true {ws : List T} {t : T} (h : Clean ws t) : cleanB ws t = true := cleanB_true h

def plFrom.T24 : Bool × List (List Nat × List Nat) := (true, [([], []), ([0], [0]), ([], []), ([], []), ([], []), ([4], [4]), ([2, 3, 5], [2, 3, 5]), ([1, 6], [1, 6]), ([7], [7]), ([8, 7], [8]), ([9], [9]), ([9], [9]), ([10, 11, 9, 9], [9, 10, 11]), ([9, 12], [9, 12])])
def plFrom.B24 : List Nat := [0, 1, 0, 0, 0, 16, 60, 127, 255, 511, 1023, 1023, 4095, 8191]
theorem plFrom.tab24 : rtab .any (opsOf Tryd.f57 24) = plFrom.T24 := by kernel_rfl
theorem plFrom.bits24 : waitsOk plFrom.T24.2 plFrom.B24 = true := by kernel_rfl
def plFrom.T25 : Bool × List (List Nat × List Nat) := (true, [([], []), ([], []), ([0, 1], [0, 1]), ([2], [2]), ([], []), ([], []), ([], []), ([], []), ([6, 7], [6, 7]), ([5, 8, 8], [5, 8]), ([4, 9], [4, 9]), ([10], [10]), ([3, 11], [3, 11]), ([0, 1, 0, 1, 2, 3, 4, 5, 6, 7, 8, 9, 10, 11, 12], [0, 1]), ([13, 12, 9, 0, 1, 2, 3, 4, 5, 6, 7, 8, 9, 10, 11, 12], [12, 13])])
def plFrom.B25 : List Nat := [0, 0, 3, 7, 0, 0, 0, 0, 192, 480, 1008, 2032, 4095, 8191, 16383]
theorem plFrom.tab25 : rtab .any (opsOf Tryd.f57 25) = plFrom.T25 := by kernel_rfl
theorem plFrom.bits25 : waitsOk plFrom.T25.2 plFrom.B25 = true := by kernel_rfl

set_option maxRecDepth 100000 in
set_option maxHeartbeats 8000000 in
theorem plFrom_any {p b : T} {ws : List T} (G : Good p b ws) {A : Option Addr} {c : Nat} (t : T) (ht : t.length ≤ 4000000) (w : World) (hT : Texts w A c ws) :
    Calls Tryd.prog 57 #[.agg #[.string (str p), .string (str b), .slice A ws.length c], .string (str t)] w fun e w' => e = .returned (.int .i64 (fromN p b ws t : Nat)) ∧ Below w.heap.size w w' := by
  have hsz := str_size t
  have hsp := str_size p
  have p8 := G.p8
  have p1 := G.p1
  have hl := G.w3
  have hwl : ∀ x ∈ ws, x.length ≤ 4000000 := fun x hx => by have := (G.ww x hx).1.2; omega
  have HWL := Aside0.mk hwl
  have HFI := Aside0.mk (fun W => plFits_any (A := A) (c := c) (ws := ws) (b := b) t ht (p := p) (by omega) (by have := G.b36; omega) W)
  have HCL := Aside0.mk (fun W (h : Texts W A c ws) => plClean_any (p := p) (b := b) t ht hwl (by omega) W h)
  have HT := Aside0.mk hT
  have HG := Aside0.mk G
  clear hwl hT
  have hBW : Aside0 (Below w.heap.size w (w.alloc (.cells #[.string (str p), .string (str b), .slice A ws.length c] 28))) := ⟨(Below.refl _ w).alloc (Nat.le_refl _) _⟩
  by_cases hf : Fits p b t
  case neg =>
    have hV : Aside0 (fromN p b ws t = 0) := ⟨by unfold fromN; rw [if_neg (fun h => hf h.1)]⟩
    rw [fitsB_false hf] at HFI
    clear hf G
    go_enter Tryd.func57, Tryd.ntmps57
    go_wp2_with (go_at_call 80; refine (HFI.out _).mono ?_; rintro e w1 ⟨rfl, hb1⟩; have HB1 := Aside0.mk (hBW.out.trans (hb1.mono hBW.out.size)); clear hb1)
    go_ret
    exact ⟨congrArg (fun z : Nat => Ending.returned (Value.int .i64 (z : Int))) hV.out.symm, HB1.out⟩
  by_cases hc : Clean ws t
  case neg =>
    have hV : Aside0 (fromN p b ws t = 0) := ⟨by unfold fromN; rw [if_neg (fun h => hc h.2)]⟩
    rw [fitsB_true hf] at HFI
    rw [cleanB_false hc] at HCL
    clear hf hc G
    go_enter Tryd.func57, Tryd.ntmps57
    have hbx : Aside0 ((w.alloc (.cells #[.string (str p), .string (str b), .slice A ws.length c] 28)).heap[w.heap.size]? = some (.cells #[.string (str p), .string (str b), .slice A ws.length c] 28 (0, 0))) := ⟨al_new _ _ _ rfl⟩
    go_wp2_with (first | (go_at_call 80; refine (HFI.out _).mono ?_; rintro e w1 ⟨rfl, hb1⟩; have HX1 := Aside0.mk hb1; have HB1 := Aside0.mk (hBW.out.trans (hb1.mono hBW.out.size)); have k0 : w1.cell? ⟨w.heap.size, 0, none⟩ = some (.string (str p)) := (Go.Joins.cell_of_block ((hb1.block _ (by rw [al_size]; omega)).trans hbx.out) 0).trans rfl; have k1 : w1.cell? ⟨w.heap.size, 1, none⟩ = some (.string (str b)) := (Go.Joins.cell_of_block ((hb1.block _ (by rw [al_size]; omega)).trans hbx.out) 1).trans rfl; have k2 : w1.cell? ⟨w.heap.size, 2, none⟩ = some (.slice A ws.length c) := (Go.Joins.cell_of_block ((hb1.block _ (by rw [al_size]; omega)).trans hbx.out) 2).trans rfl; clear hb1) | (go_at_call 81; refine (HCL.out _ (texts_below HT.out HB1.out)).mono ?_; rintro e w2 ⟨rfl, hb2⟩; have HB2 := Aside0.mk (HB1.out.trans (hb2.mono HB1.out.size)); clear hb2))
    go_ret
    exact ⟨congrArg (fun z : Nat => Ending.returned (Value.int .i64 (z : Int))) hV.out.symm, HB2.out⟩
  have hV : Aside0 (fromN p b ws t = cnt b ws (p.drop t.length) t) := ⟨by unfold fromN; rw [if_pos ⟨hf, hc⟩]⟩
  have htp := hf.1
  have HTS : Aside0 (∀ c ∈ t, c.toNat < 128) := ⟨fun c hc => sign_ascii (fits_sign hf c hc)⟩
  have HCT := Aside0.mk hc
  rw [fitsB_true hf] at HFI
  rw [cleanB_true hc] at HCL
  clear hf hc
  obtain ⟨S, hS, h13, hst, hcS⟩ := plStates_any p b ws hl (fun x hx => ⟨(G.ww x hx).1.2, (G.ww x hx).1.1⟩)
  have HSS : Aside0 (∀ s ∈ S, s.length ≤ 4 ∧ ∀ c ∈ s, c.toNat < 128) := ⟨fun s hs => by
    rcases hS s hs with rfl | ⟨x, hx, hp⟩
    · exact ⟨by simp, fun c hc => by simp at hc⟩
    · exact ⟨Nat.le_trans hp.length_le (G.ww x hx).1.2, fun c hc => sign_ascii ((G.ww x hx).2 c (hp.subset hc))⟩⟩
  have HST := Aside0.mk hst
  have HCS := Aside0.mk (hcS A c)
  obtain ⟨arr, hmk, harr⟩ := make_row S.length (by omega)
  have HARR := Aside0.mk harr
  clear hS hst hcS harr G
  go_enter Tryd.func57, Tryd.ntmps57
  have hbx : Aside0 ((w.alloc (.cells #[.string (str p), .string (str b), .slice A ws.length c] 28)).heap[w.heap.size]? = some (.cells #[.string (str p), .string (str b), .slice A ws.length c] 28 (0, 0))) := ⟨al_new _ _ _ rfl⟩
  go_wp2_with (first | (go_at_call 80; refine (HFI.out _).mono ?_; rintro e w1 ⟨rfl, hb1⟩; have HX1 := Aside0.mk ((hb1.block w.heap.size (by rw [al_size]; omega)).trans hbx.out); have HB1 := Aside0.mk (hBW.out.trans (hb1.mono hBW.out.size)); have HL1 : Aside0 (w.heap.size < w1.heap.size) := ⟨by have := hb1.size; rw [al_size] at this; omega⟩; have k0 : w1.cell? ⟨w.heap.size, 0, none⟩ = some (.string (str p)) := (Go.Joins.cell_of_block HX1.out 0).trans rfl; have k1 : w1.cell? ⟨w.heap.size, 1, none⟩ = some (.string (str b)) := (Go.Joins.cell_of_block HX1.out 1).trans rfl; have k2 : w1.cell? ⟨w.heap.size, 2, none⟩ = some (.slice A ws.length c) := (Go.Joins.cell_of_block HX1.out 2).trans rfl; clear hb1) | (go_at_call 81; refine (HCL.out _ (texts_below HT.out HB1.out)).mono ?_; rintro e w2 ⟨rfl, hb2⟩; have HX2 := Aside0.mk ((hb2.block w.heap.size HL1.out).trans HX1.out); have HB2 := Aside0.mk (HB1.out.trans (hb2.mono HB1.out.size)); have HL2 := Aside0.mk (Nat.lt_of_lt_of_le HL1.out hb2.size); replace k0 : w2.cell? ⟨w.heap.size, 0, none⟩ = some (.string (str p)) := (Go.Joins.cell_of_block HX2.out 0).trans rfl; replace k1 : w2.cell? ⟨w.heap.size, 1, none⟩ = some (.string (str b)) := (Go.Joins.cell_of_block HX2.out 1).trans rfl; replace k2 : w2.cell? ⟨w.heap.size, 2, none⟩ = some (.slice A ws.length c) := (Go.Joins.cell_of_block HX2.out 2).trans rfl; clear hb2) | (go_at_call 82; refine (HCS.out _ (texts_below HT.out HB2.out)).mono ?_; rintro e w3 ⟨A1, c1, rfl, hT3, hb3⟩; have HX3 := Aside0.mk ((hb3.block w.heap.size HL2.out).trans HX2.out); have HB3 := Aside0.mk (HB2.out.trans (hb3.mono HB2.out.size)); have HL3 := Aside0.mk (Nat.lt_of_lt_of_le HL2.out hb3.size); have HTS3 := Aside0.mk hT3; have HTW3 := Aside0.mk (texts_below HT.out HB3.out); clear k0 k1 k2 hb3 hT3))
  clear HX1 HB1 HL1 HX2 HB2 HL2 HFI HCL HCS hBW hbx
  go_loopg [32] (S.length + 1) (fun gg v32 wr => ∃ i : Nat, v32 = .int .i64 i ∧ i ≤ S.length ∧ S.length - i < gg ∧ Aside0 (Row wr w3.heap.size S.length (fun j => if j < i then 1 else 0)) ∧ Aside0 (Below w3.heap.size w3 wr))
  case atStart => exact ⟨0, rfl, by omega, by omega, ⟨(row_new w3 arr S.length HARR.out).imp (fun j hj => by rw [if_neg (by omega)])⟩, ⟨(Below.refl _ w3).alloc (Nat.le_refl _) _⟩⟩
  case round =>
    obtain ⟨i, rfl, i1, i2, HR, HB⟩ := hrel
    by_cases hi : i < S.length
    · have hce := HR.out.cell i hi
      have hfz := HR.out.frozen i
      go_wp2
      go_roundg (S.length - i)
      case measure => omega
      case rel => exact ⟨i + 1, by first | rfl | go_num, by omega, by omega, ⟨(HR.out.set i 1 hi).imp (fun j hj => by
        by_cases e : j = i
        · rw [if_pos e, if_pos (by omega)]
        · rw [if_neg e]
          by_cases e2 : j < i
          · rw [if_pos e2, if_pos (by omega)]
          · rw [if_neg e2, if_neg (by omega)])⟩, ⟨HB.out.setCell (Nat.le_refl _) _⟩⟩
    · obtain rfl : i = S.length := by omega
      have HX4 := Aside0.mk ((HB.out.block w.heap.size HL3.out).trans HX3.out)
      have k0 : wr.cell? ⟨w.heap.size, 0, none⟩ = some (.string (str p)) := (Go.Joins.cell_of_block HX4.out 0).trans rfl
      have HCELL := Aside0.mk (fun W (h : Below w3.heap.size w3 W) => And.intro (show W.cell? ⟨w.heap.size, 0, none⟩ = some (.string (str p)) from (Go.Joins.cell_of_block ((h.block w.heap.size HL3.out).trans HX3.out) 0).trans rfl) (And.intro (show W.cell? ⟨w.heap.size, 1, none⟩ = some (.string (str b)) from (Go.Joins.cell_of_block ((h.block w.heap.size HL3.out).trans HX3.out) 1).trans rfl) (show W.cell? ⟨w.heap.size, 2, none⟩ = some (.slice A ws.length c) from (Go.Joins.cell_of_block ((h.block w.heap.size HL3.out).trans HX3.out) 2).trans rfl)))
      have HR0 : Aside0 (Row wr w3.heap.size S.length (fun j => cnt b ws (p.drop p.length) (S.getD j []))) := ⟨HR.out.imp (fun j hj => by rw [if_pos hj, List.drop_length, cnt_nil])⟩
      have HB0 := HB
      go_wp2
      clear k0 HX4 HR HB
      go_loopg [6, 8] (p.length + 1) (fun gg v6 v8 wr => ∃ q B : Nat, v8 = .int .i64 ((q : Int) - 1) ∧ v6 = .slice (some ⟨B, 0, none⟩) S.length S.length ∧ t.length ≤ q ∧ q ≤ p.length ∧ q - t.length < gg ∧ Aside0 (w3.heap.size ≤ B) ∧ Aside0 (Row wr B S.length (fun j => cnt b ws (p.drop q) (S.getD j []))) ∧ Aside0 (Below w3.heap.size w3 wr))
      case atStart => exact ⟨p.length, w3.heap.size, rfl, rfl, htp, Nat.le_refl _, by omega, ⟨Nat.le_refl _⟩, HR0, HB0⟩
      case round =>
        clear HR0 HB0
        rename World => V1
        obtain ⟨q, B, rfl, rfl, q1, q2, q3, HBB, HRB, HBW⟩ := hrel
        by_cases hq : t.length < q
        · obtain ⟨a, rfl⟩ : ∃ a, q = a + 1 := ⟨q - 1, by omega⟩
          have ha : a < p.length := by omega
          have e8 : (((a + 1 : Nat) : Int) - 1) = (a : Int) := by omega
          rw [e8]
          have hdrop : Aside0 (p.drop a = p[a] :: p.drop (a + 1)) := ⟨List.drop_eq_getElem_cons ha⟩
          have hd7 : Aside0 ((p.drop (a + 1)).length ≤ 7) := ⟨by rw [List.length_drop]; omega⟩
          obtain ⟨sg, hsg⟩ : ∃ sg, sg = signsAt p[a] := ⟨_, rfl⟩
          have HSG := Aside0.mk hsg
          have hpx := HG.out.pat p[a] (List.getElem_mem ha)
          obtain ⟨k0, k1, k2⟩ := HCELL.out _ HBW.out
          have sgl : sg.length ≤ 26 := by rw [hsg]; exact signsAt_length _
          have SGA : Aside0 (∀ c ∈ sg, c.toNat < 128) := ⟨fun c hc => by
            have : c ∈ letters ∨ c ∈ digits := by rw [hsg] at hc; unfold signsAt at hc; split at hc; exact .inl hc; exact .inr hc
            rcases this with h | h
            · exact by have := (mem_letters c).1 h; omega
            · exact by have := (mem_digits c).1 h; omega⟩
          obtain ⟨m, hm⟩ : ∃ m, m = p[a].toNat := ⟨_, rfl⟩
          rcases hpx with hpx | hpx
          focus
            have hb76 : ((str p)[a]'(by rw [str_size]; exact ha)).toNat = m := hm.symm
            have q76 : ((m : Int) == 76) = true := by rw [hm, hpx]; rfl
            have ec : p[a] = 76 := hpx
            have esg : (ByteArray.mk #[65, 66, 67, 68, 69, 70, 71, 72, 73, 74, 75, 76, 77, 78, 79, 80, 81, 82, 83, 84, 85, 86, 87, 88, 89, 90]) = str sg := by rw [hsg, hpx]; rfl
            clear hsg hpx hm ec
            go_wp2
            rw [esg]
            clear esg
          rotate_left
          focus
            have hb76 : ((str p)[a]'(by rw [str_size]; exact ha)).toNat = m := hm.symm
            have q76 : ((m : Int) == 76) = false := by rw [hm, hpx]; rfl
            have ec : p[a] = 68 := hpx
            have esg : (ByteArray.mk #[48, 49, 50, 51, 52, 53, 54, 55, 56, 57]) = str sg := by rw [hsg, hpx]; rfl
            clear hsg hpx hm ec
            go_wp2
            rw [esg]
            clear esg
          rotate_left
          all_goals
            clear hb76 q76 k0 k1 k2
            have hsgz := str_size sg
            go_loopg [59] (S.length + 1) (fun gg v59 wr2 => ∃ i : Nat, v59 = .int .i64 i ∧ i ≤ S.length ∧ S.length - i < gg ∧ Aside0 (Row wr2 V1.heap.size S.length (fun j => if j < i then cnt b ws (p.drop a) (S.getD j []) else 0)) ∧ Aside0 (Below V1.heap.size V1 wr2))
            case atStart => exact ⟨0, rfl, by omega, by omega, ⟨(row_new V1 arr S.length HARR.out).imp (fun j hj => by rw [if_neg (by omega)])⟩, ⟨(Below.refl _ V1).alloc (Nat.le_refl _) _⟩⟩
            case round =>
              rename World => V2
              obtain ⟨i, rfl, i1, i2, HR2, HB2⟩ := hrel
              by_cases hi : i < S.length
              · have HBW2 := Aside0.mk (HBW.out.trans (HB2.out.mono HBW.out.size))
                obtain ⟨ad, eA, hx⟩ := text_at HTS3.out i hi
                subst eA
                replace hx := (HBW2.out.cell (World.block_lt_of_cell? w3 _ hx)).trans hx
                have hsi := HSS.out S[i] (List.getElem_mem hi)
                have hsl := hsi.1
                have HSI := Aside0.mk hsi.2
                have HSD : Aside0 (S.getD i [] = S[i]) := ⟨by rw [List.getD_eq_getElem?_getD, List.getElem?_eq_getElem hi]; rfl⟩
                clear hsi
                go_wp2
                clear hx
                go_loopg [] (sg.length + 1) (fun gg wr3 => ∃ k : Nat, k ≤ sg.length ∧ sg.length - k < gg ∧ Aside0 (Walker wr3 V2.heap.size (str sg) k) ∧ Aside0 (Row wr3 V1.heap.size S.length (fun j => if j < i then cnt b ws (p.drop a) (S.getD j []) else if j = i then part b ws (p.drop (a + 1)) S[i] sg k else 0)) ∧ Aside0 (Below V1.heap.size V1 wr3))
                case atStart => exact ⟨0, by omega, by omega, ⟨walker_new V2 (str sg)⟩, ⟨(HR2.out.iter (str sg) 0).imp (fun j hj => by by_cases e : j < i <;> simp [e, part_zero])⟩, ⟨below_iter HB2.out HB2.out.size _ _⟩⟩
                case round =>
                  rename World => V3
                  obtain ⟨k, k1, k2, HW3, HR3, HB3⟩ := hrel
                  by_cases hk : k < sg.length
                  · have hnx : ∀ ty, (Instr.next (.pointer (some ⟨V2.heap.size, 0, none⟩)) true ty).run Tryd.prog V3 = _ := fun ty => next_digit V3 V2.heap.size (str sg) k ty HW3.out (by rw [str_size]; exact hk) (SGA.out _ (by show sg[k] ∈ sg; exact List.getElem_mem hk))
                    have ex := extract_one sg k hk
                    have eap := str_append S[i] [sg[k]]
                    have HCH := Aside0.mk (SGA.out _ (List.getElem_mem hk))
                    obtain ⟨ch, hch⟩ : ∃ ch, ch = sg[k] := ⟨_, rfl⟩
                    rw [← hch] at ex eap HCH
                    have HCHE := Aside0.mk hch
                    clear hch
                    have hslc : ∀ W : World, (Instr.slice 9 (.string (str sg)) (some (.int .i64 (k : Int))) (some (.int .i64 ((k : Int) + 1))) none).run Tryd.prog W = .ok (.string (str [ch])) W := fun W => by
                      rw [run_slice_string_if _ _ _ _ _ _ _ (by kernel_rfl), if_pos ⟨by omega, by rw [str_size]; omega⟩, if_pos ⟨by omega, by omega⟩, show ((k : Int) + 1).toNat = k + 1 by omega, Int.toNat_natCast, ex]
                    go_wp2
                    clear hnx
                    have n1_ := Aside0.mk (below_stand HB3.out (b := V2.heap.size) HB2.out.size (str sg) (k + 1))
                    have n2_ := Aside0.mk (walker_stand HW3.out (k + 1))
                    have n3_ := Aside0.mk (HR3.out.stand (b := V2.heap.size) (Nat.ne_of_lt HR2.out.lt) (str sg) (k + 1))
                    clear HB3 HW3 HR3
                    have HB4 := n1_; have HW4 := n2_; have HR4 := n3_
                    clear n1_ n2_ n3_
                    generalize stand V3 V2.heap.size (str sg) (k + 1) = w4 at HB4 HW4 HR4 ⊢
                    have HBW4 := Aside0.mk (HBW.out.trans (HB4.out.mono HBW.out.size))
                    have ewi : IntKind.i64.wrap ((k : Int) + 1) = (k : Int) + 1 := IntWalk.i64_in _ (by omega)
                    have eni : ((k : Int) + 1).toNat = k + 1 := by omega
                    have hi1 : ((k : Int) + 1 ≤ sg.length) = True := by simp; omega
                    have hi2 : ((k : Int) ≤ k + 1) = True := by simp; omega
                    have hi3 : (0 ≤ (k : Int) + 1) = True := by simp; omega
                    have hi4 : (k + 1 ≤ sg.length) = True := by simp; omega
                    have HP1 := Aside0.mk (part_succ b ws (p.drop (a + 1)) S[i] sg k hk)
                    rw [← HCHE.out] at HP1
                    have HHAS := Aside0.mk (fun W => plHas_any b [ch] (by have := HG.out.b36; omega) (by simp) W)
                    rw [has_one] at HHAS
                    have tl5 : (S[i] ++ [ch]).length ≤ 5 := by rw [List.length_append, List.length_singleton]; omega
                    have HCLN := Aside0.mk (fun W (h : Texts W A c ws) => plClean_any (p := p) (b := b) (S[i] ++ [ch]) (by omega) HWL.out (by omega) W h)
                    by_cases hcb : ch ∈ b
                    · rw [decide_eq_true hcb] at HHAS
                      rw [term_no (fun h => h.1 hcb)] at HP1
                      clear hcb HCLN
                      refine start_ (n := 14) (S := fun w' => w'.cell? ⟨w.heap.size, 0, none⟩ = some (.string (str p)) ∧ w'.cell? ⟨w.heap.size, 1, none⟩ = some (.string (str b)) ∧ w'.cell? ⟨w.heap.size, 2, none⟩ = some (.slice A ws.length c)) (ds := []) #[false, false, false, false, false, false, false, false, false, false, false, false, false, false] (by kernel_rfl) rfl rfl (HCELL.out _ (below_drew1 HBW4.out)) (fun hHeld => ?_); refine with_tabW plFrom.tab24 plFrom.bits24 (fun HT_ HW_ => ?_)
                      have HB5 := Aside0.mk (below_drew1 HB4.out)
                      have HR5 := Aside0.mk (Row.block (W' := w4.drew) HR4.out rfl)
                      have HW5 : Aside0 (Walker w4.drew V2.heap.size (str sg) (k + 1)) := ⟨HW4.out⟩
                      generalize w4.drew = w5 at HB5 HR5 HW5 hHeld ⊢
                      have HBW5 := Aside0.mk (HBW.out.trans (HB5.out.mono HBW.out.size))
                      clear HB4 HR4 HW4 HBW4
                      refine pure_ (i := 0) (N := some 76) (v := ?_) (a' := ?_) #[true, false, false, false, false, false, false, false, false, false, false, false, false, false] rfl rfl (any_of HT_.out (by kernel_rfl)) (fun _ _ _ h => h) (Or.inl ⟨by rfl, ?_⟩) ?_ ?_
                      rotate_left
                      · intro w'
                        go_simp
                        with_reducible rfl
                      rotate_left
                      · simp only [Act.put, List.setIfInBounds_toArray, List.set_cons_zero, List.set_cons_succ, i64_w, i32_w]
                        rfl
                      refine pure_ (i := 2) (N := some 78) (v := ?_) (a' := ?_) #[true, false, true, false, false, false, false, false, false, false, false, false, false, false] rfl rfl (any_of HT_.out (by kernel_rfl)) (fun _ _ _ h => h) (Or.inl ⟨by rfl, ?_⟩) ?_ ?_
                      rotate_left
                      · intro w'
                        go_simp
                        with_reducible rfl
                      rotate_left
                      · simp only [Act.put, List.setIfInBounds_toArray, List.set_cons_zero, List.set_cons_succ, i64_w, i32_w]
                        rfl
                      refine pure_ (i := 3) (N := some 79) (v := ?_) (a' := ?_) #[true, false, true, true, false, false, false, false, false, false, false, false, false, false] rfl rfl (any_of HT_.out (by kernel_rfl)) (fun _ _ _ h => h) (Or.inl ⟨by rfl, ?_⟩) ?_ ?_
                      rotate_left
                      · intro w'
                        go_simp
                        with_reducible rfl
                      rotate_left
                      · simp only [Act.put, List.setIfInBounds_toArray, List.set_cons_zero, List.set_cons_succ, i64_w, i32_w]
                        rfl
                      refine pure_ (i := 4) (N := some 80) (v := ?_) (a' := ?_) #[true, false, true, true, true, false, false, false, false, false, false, false, false, false] rfl rfl (any_of HT_.out (by kernel_rfl)) (fun _ _ _ h => h) (Or.inl ⟨by rfl, ?_⟩) ?_ ?_
                      rotate_left
                      · intro w'
                        go_simp
                        with_reducible rfl
                      rotate_left
                      · simp only [Act.put, List.setIfInBounds_toArray, List.set_cons_zero, List.set_cons_succ, i64_w, i32_w]
                        rfl
                      refine pure_ (i := 5) (N := some 81) (v := ?_) (a' := ?_) #[true, false, true, true, true, true, false, false, false, false, false, false, false, false] rfl rfl (any_of HT_.out (by kernel_rfl)) (fun _ _ _ h => h) (Or.inl ⟨by rfl, ?_⟩) ?_ ?_
                      rotate_left
                      · intro w'
                        go_simp
                        with_reducible rfl
                      rotate_left
                      · simp only [Act.put, List.setIfInBounds_toArray, List.set_cons_zero, List.set_cons_succ, i64_w, i32_w]
                        rfl
                      refine pure_ (i := 6) (N := some 82) (v := ?_) (a' := ?_) #[true, false, true, true, true, true, true, false, false, false, false, false, false, false] rfl rfl (any_of HT_.out (by kernel_rfl)) (fun _ _ _ h => h) (Or.inl ⟨by rfl, ?_⟩) ?_ ?_
                      rotate_left
                      · intro w'
                        go_simp
                        with_reducible rfl
                      rotate_left
                      · simp only [Act.put, List.setIfInBounds_toArray, List.set_cons_zero, List.set_cons_succ, i64_w, i32_w]
                        rfl
                      refine take_ (i := 1) (N := some 77) (v := ?_) (a' := ?_) #[true, true, true, true, true, true, true, false, false, false, false, false, false, false] rfl rfl (take_ofW HT_.out HW_.out (by kernel_rfl)) (fun _ _ _ h => h) (Or.inl ⟨by rfl, ?_⟩) hHeld ?_ ?_
                      rotate_left
                      · rintro w' ⟨s0, s1, s2⟩
                        go_simp
                        with_reducible rfl
                      rotate_left
                      · simp only [Act.put, List.setIfInBounds_toArray, List.set_cons_zero, List.set_cons_succ, i64_w, i32_w]
                        rfl
                      refine one_ (i := 7) (N := some 83) #[true, true, true, true, true, true, true, true, false, false, false, false, false, false] rfl rfl (one_of HT_.out (by kernel_rfl)) (by decide) (fun K hK => ?_)
                      refine goes_ Tryd.func49 (by kernel_rfl) rfl #[.string (str b), .string (str [ch])] (by rfl) rfl rfl (by (try simp only [List.map_toArray, List.map_cons, List.map_nil]); first | done | rfl) ?_
                      refine (HHAS.out _).mono ?_
                      rintro e w' ⟨rfl, ⟨nd, rfl⟩⟩
                      have hb := pw_below_drewN (Below.refl w5.heap.size w5) nd
                      generalize World.drewN w5 nd = w6 at hb ⊢
                      have n1_ := Aside0.mk (HB5.out.trans (hb.mono HB5.out.size)); have n2_ := Aside0.mk (HR5.out.below hb HR5.out.lt); have n3_ := Aside0.mk (walker_below HW5.out hb HW5.out.lt); clear HB5 HR5 HW5 HBW5 hb; have HB5 := n1_; have HR5 := n2_; have HW5 := n3_; clear n1_ n2_ n3_; have HBW5 := Aside0.mk (HBW.out.trans (HB5.out.mono HBW.out.size))
                      refine ⟨_, rfl, ?_⟩
                      refine hK.out _ _ (HCELL.out _ HBW5.out) (fun hHeld => ?_)
                      clear hK K
                      refine norm_ (a' := ?_) ?_ ?_
                      rotate_left
                      · show Act.put _ (some 83) _ = _
                        simp only [Act.put, List.setIfInBounds_toArray, List.set_cons_zero, List.set_cons_succ, i64_w, i32_w]
                        rfl
                      refine pure_ (i := 8) (N := some 84) (v := ?_) (a' := ?_) #[true, true, true, true, true, true, true, true, true, false, false, false, false, false] rfl rfl (any_of HT_.out (by kernel_rfl)) (fun _ _ _ h => h) (Or.inl ⟨by rfl, ?_⟩) ?_ ?_
                      rotate_left
                      · intro w'
                        go_simp
                        with_reducible rfl
                      rotate_left
                      · simp only [Act.put, List.setIfInBounds_toArray, List.set_cons_zero, List.set_cons_succ, i64_w, i32_w]
                        rfl
                      refine pure_ (i := 9) (N := some 85) (v := ?_) (a' := ?_) #[true, true, true, true, true, true, true, true, true, true, false, false, false, false] rfl rfl (any_of HT_.out (by kernel_rfl)) (fun _ _ _ h => h) (Or.inl ⟨by rfl, ?_⟩) ?_ ?_
                      rotate_left
                      · intro w'
                        go_simp
                        with_reducible rfl
                      rotate_left
                      · simp only [Act.put, List.setIfInBounds_toArray, List.set_cons_zero, List.set_cons_succ, i64_w, i32_w]
                        rfl
                      refine pure_ (i := 11) (N := some 87) (v := undef) (a' := ?_) #[true, true, true, true, true, true, true, true, true, true, false, true, false, false] rfl rfl (any_of HT_.out (by kernel_rfl)) (fun _ _ _ h => h) (Or.inr ⟨by rfl, rfl⟩) ?_ ?_
                      rotate_left
                      · simp only [Act.put, List.setIfInBounds_toArray, List.set_cons_zero, List.set_cons_succ, i64_w, i32_w]
                        rfl
                      refine pure_ (i := 10) (N := some 86) (v := undef) (a' := ?_) #[true, true, true, true, true, true, true, true, true, true, true, true, false, false] rfl rfl (any_of HT_.out (by kernel_rfl)) (fun _ _ _ h => h) (Or.inr ⟨by rfl, rfl⟩) ?_ ?_
                      rotate_left
                      · simp only [Act.put, List.setIfInBounds_toArray, List.set_cons_zero, List.set_cons_succ, i64_w, i32_w]
                        rfl
                      refine pure_ (i := 12) (N := some 88) (v := undef) (a' := ?_) #[true, true, true, true, true, true, true, true, true, true, true, true, true, false] rfl rfl (any_of HT_.out (by kernel_rfl)) (fun _ _ _ h => h) (Or.inr ⟨by rfl, rfl⟩) ?_ ?_
                      rotate_left
                      · simp only [Act.put, List.setIfInBounds_toArray, List.set_cons_zero, List.set_cons_succ, i64_w, i32_w]
                        rfl
                      refine pure_ (i := 13) (N := some 89) (v := ?_) (a' := ?_) #[true, true, true, true, true, true, true, true, true, true, true, true, true, true] rfl rfl (any_of HT_.out (by kernel_rfl)) (fun _ _ _ h => h) (Or.inl ⟨by rfl, ?_⟩) ?_ ?_
                      rotate_left
                      · intro w'
                        go_simp
                        with_reducible rfl
                      rotate_left
                      · simp only [Act.put, List.setIfInBounds_toArray, List.set_cons_zero, List.set_cons_succ, i64_w, i32_w]
                        rfl
                      refine done_ (done_of HT_.out (by kernel_rfl)) ?_
                      go_wp2
                      go_roundg (sg.length - k)
                      case measure => omega
                      case rel => exact ⟨k + 1, by omega, by omega, HW5, ⟨HR5.out.imp (fun j hj => by simp only [HP1.out, Nat.add_zero])⟩, HB5⟩
                    rw [decide_eq_false hcb] at HHAS
                    by_cases hcl : Clean ws (S[i] ++ [ch])
                    · rw [cleanB_true hcl] at HCLN
                      rw [term_yes hcb hcl] at HP1
                      have HSTA := Aside0.mk (fun W (h : Texts W A c ws) => plState_any (p := p) (b := b) (S[i] ++ [ch]) (by omega) (fun x hx => (List.mem_append.1 hx).elim (HSI.out x) (fun h => by rw [List.mem_singleton.1 h]; exact HCH.out)) (by omega) HWL.out W h)
                      obtain ⟨j, hj, ej, hidx⟩ := plIndex_any S (st ws (S[i] ++ [ch])) (by omega) (HST.out _)
                      have HIDX := Aside0.mk hidx
                      have hM : Aside0 (part b ws (p.drop (a + 1)) S[i] sg (k + 1) ≤ 208827064576) := ⟨by
                        rw [HSG.out]
                        exact Nat.le_trans (part_le b ws p[a] (p.drop (a + 1)) S[i] _) (cnt_bound b ws _ _ (by have := hd7.out; rw [List.length_cons]; omega))⟩
                      obtain ⟨M, hMe⟩ : ∃ M, M = part b ws (p.drop (a + 1)) S[i] sg k := ⟨_, rfl⟩
                      obtain ⟨V, hVe⟩ : ∃ V, V = cnt b ws (p.drop (a + 1)) (st ws (S[i] ++ [ch])) := ⟨_, rfl⟩
                      rw [← hMe, ← hVe] at HP1
                      rw [HP1.out] at hM
                      have hMV := hM.out
                      have CE0 : Aside0 (∀ W, Below w3.heap.size w3 W → Below V1.heap.size V1 W → Row W V1.heap.size S.length (fun j => if j < i then cnt b ws (p.drop a) (S.getD j []) else if j = i then part b ws (p.drop (a + 1)) S[i] sg k else 0) → W.cell? ⟨V1.heap.size, i, none⟩ = some (.int .i64 (M : Int)) ∧ W.cell? ⟨B, j, none⟩ = some (.int .i64 (V : Int))) := ⟨fun W h1 h2 h3 => by
                        constructor
                        · rw [h3.cell i hi, if_neg (Nat.lt_irrefl _), if_pos rfl, hMe]
                        · rw [(HRB.out.below h2 HRB.out.lt).cell j hj, List.getD_eq_getElem?_getD, List.getElem?_eq_getElem hj, Option.getD_some, ej, hVe]⟩
                      have CE5 := fun {W : World} (h1 : Below w3.heap.size w3 W) (h2 : Below V1.heap.size V1 W) (h3 : Row W V1.heap.size S.length (fun j => if j < i then cnt b ws (p.drop a) (S.getD j []) else if j = i then part b ws (p.drop (a + 1)) S[i] sg k else 0)) => And.intro (HCELL.out W h1).1 (And.intro (HCELL.out W h1).2.1 (And.intro (HCELL.out W h1).2.2 (CE0.out W h1 h2 h3)))
                      have HCE5 := Aside0.mk @CE5
                      clear CE5 hMe hVe ej hidx hcb hcl
                      have e25 : IntKind.i64.wrap ((M : Int) + V) = ((M + V : Nat) : Int) := by rw [IntWalk.i64_in _ (by omega)]; omega
                      refine start_ (n := 14) (S := fun w' => w'.cell? ⟨w.heap.size, 0, none⟩ = some (.string (str p)) ∧ w'.cell? ⟨w.heap.size, 1, none⟩ = some (.string (str b)) ∧ w'.cell? ⟨w.heap.size, 2, none⟩ = some (.slice A ws.length c)) (ds := []) #[false, false, false, false, false, false, false, false, false, false, false, false, false, false] (by kernel_rfl) rfl rfl (HCELL.out _ (below_drew1 HBW4.out)) (fun hHeld => ?_); refine with_tabW plFrom.tab24 plFrom.bits24 (fun HT_ HW_ => ?_)
                      have HB5 := Aside0.mk (below_drew1 HB4.out)
                      have HR5 := Aside0.mk (Row.block (W' := w4.drew) HR4.out rfl)
                      have HW5 : Aside0 (Walker w4.drew V2.heap.size (str sg) (k + 1)) := ⟨HW4.out⟩
                      generalize w4.drew = w5 at HB5 HR5 HW5 hHeld ⊢
                      have HBW5 := Aside0.mk (HBW.out.trans (HB5.out.mono HBW.out.size))
                      clear HB4 HR4 HW4 HBW4
                      refine pure_ (i := 0) (N := some 76) (v := ?_) (a' := ?_) #[true, false, false, false, false, false, false, false, false, false, false, false, false, false] rfl rfl (any_of HT_.out (by kernel_rfl)) (fun _ _ _ h => h) (Or.inl ⟨by rfl, ?_⟩) ?_ ?_
                      rotate_left
                      · intro w'
                        go_simp
                        with_reducible rfl
                      rotate_left
                      · simp only [Act.put, List.setIfInBounds_toArray, List.set_cons_zero, List.set_cons_succ, i64_w, i32_w]
                        rfl
                      refine pure_ (i := 2) (N := some 78) (v := ?_) (a' := ?_) #[true, false, true, false, false, false, false, false, false, false, false, false, false, false] rfl rfl (any_of HT_.out (by kernel_rfl)) (fun _ _ _ h => h) (Or.inl ⟨by rfl, ?_⟩) ?_ ?_
                      rotate_left
                      · intro w'
                        go_simp
                        with_reducible rfl
                      rotate_left
                      · simp only [Act.put, List.setIfInBounds_toArray, List.set_cons_zero, List.set_cons_succ, i64_w, i32_w]
                        rfl
                      refine pure_ (i := 3) (N := some 79) (v := ?_) (a' := ?_) #[true, false, true, true, false, false, false, false, false, false, false, false, false, false] rfl rfl (any_of HT_.out (by kernel_rfl)) (fun _ _ _ h => h) (Or.inl ⟨by rfl, ?_⟩) ?_ ?_
                      rotate_left
                      · intro w'
                        go_simp
                        with_reducible rfl
                      rotate_left
                      · simp only [Act.put, List.setIfInBounds_toArray, List.set_cons_zero, List.set_cons_succ, i64_w, i32_w]
                        rfl
                      refine pure_ (i := 4) (N := some 80) (v := ?_) (a' := ?_) #[true, false, true, true, true, false, false, false, false, false, false, false, false, false] rfl rfl (any_of HT_.out (by kernel_rfl)) (fun _ _ _ h => h) (Or.inl ⟨by rfl, ?_⟩) ?_ ?_
                      rotate_left
                      · intro w'
                        go_simp
                        with_reducible rfl
                      rotate_left
                      · simp only [Act.put, List.setIfInBounds_toArray, List.set_cons_zero, List.set_cons_succ, i64_w, i32_w]
                        rfl
                      refine pure_ (i := 5) (N := some 81) (v := ?_) (a' := ?_) #[true, false, true, true, true, true, false, false, false, false, false, false, false, false] rfl rfl (any_of HT_.out (by kernel_rfl)) (fun _ _ _ h => h) (Or.inl ⟨by rfl, ?_⟩) ?_ ?_
                      rotate_left
                      · intro w'
                        go_simp
                        with_reducible rfl
                      rotate_left
                      · simp only [Act.put, List.setIfInBounds_toArray, List.set_cons_zero, List.set_cons_succ, i64_w, i32_w]
                        rfl
                      refine pure_ (i := 6) (N := some 82) (v := ?_) (a' := ?_) #[true, false, true, true, true, true, true, false, false, false, false, false, false, false] rfl rfl (any_of HT_.out (by kernel_rfl)) (fun _ _ _ h => h) (Or.inl ⟨by rfl, ?_⟩) ?_ ?_
                      rotate_left
                      · intro w'
                        go_simp
                        with_reducible rfl
                      rotate_left
                      · simp only [Act.put, List.setIfInBounds_toArray, List.set_cons_zero, List.set_cons_succ, i64_w, i32_w]
                        rfl
                      refine take_ (i := 1) (N := some 77) (v := ?_) (a' := ?_) #[true, true, true, true, true, true, true, false, false, false, false, false, false, false] rfl rfl (take_ofW HT_.out HW_.out (by kernel_rfl)) (fun _ _ _ h => h) (Or.inl ⟨by rfl, ?_⟩) hHeld ?_ ?_
                      rotate_left
                      · rintro w' ⟨s0, s1, s2⟩
                        go_simp
                        with_reducible rfl
                      rotate_left
                      · simp only [Act.put, List.setIfInBounds_toArray, List.set_cons_zero, List.set_cons_succ, i64_w, i32_w]
                        rfl
                      refine one_ (i := 7) (N := some 83) #[true, true, true, true, true, true, true, true, false, false, false, false, false, false] rfl rfl (one_of HT_.out (by kernel_rfl)) (by decide) (fun K hK => ?_)
                      refine goes_ Tryd.func49 (by kernel_rfl) rfl #[.string (str b), .string (str [ch])] (by rfl) rfl rfl (by (try simp only [List.map_toArray, List.map_cons, List.map_nil]); first | done | rfl) ?_
                      refine (HHAS.out _).mono ?_
                      rintro e w' ⟨rfl, ⟨nd, rfl⟩⟩
                      have hb := pw_below_drewN (Below.refl w5.heap.size w5) nd
                      generalize World.drewN w5 nd = w6 at hb ⊢
                      have n1_ := Aside0.mk (HB5.out.trans (hb.mono HB5.out.size)); have n2_ := Aside0.mk (HR5.out.below hb HR5.out.lt); have n3_ := Aside0.mk (walker_below HW5.out hb HW5.out.lt); clear HB5 HR5 HW5 HBW5 hb; have HB5 := n1_; have HR5 := n2_; have HW5 := n3_; clear n1_ n2_ n3_; have HBW5 := Aside0.mk (HBW.out.trans (HB5.out.mono HBW.out.size))
                      refine ⟨_, rfl, ?_⟩
                      refine hK.out _ _ (HCELL.out _ HBW5.out) (fun hHeld => ?_)
                      clear hK K
                      refine norm_ (a' := ?_) ?_ ?_
                      rotate_left
                      · show Act.put _ (some 83) _ = _
                        simp only [Act.put, List.setIfInBounds_toArray, List.set_cons_zero, List.set_cons_succ, i64_w, i32_w]
                        rfl
                      refine pure_ (i := 8) (N := some 84) (v := ?_) (a' := ?_) #[true, true, true, true, true, true, true, true, true, false, false, false, false, false] rfl rfl (any_of HT_.out (by kernel_rfl)) (fun _ _ _ h => h) (Or.inl ⟨by rfl, ?_⟩) ?_ ?_
                      rotate_left
                      · intro w'
                        go_simp
                        with_reducible rfl
                      rotate_left
                      · simp only [Act.put, List.setIfInBounds_toArray, List.set_cons_zero, List.set_cons_succ, i64_w, i32_w]
                        rfl
                      refine pure_ (i := 9) (N := some 85) (v := ?_) (a' := ?_) #[true, true, true, true, true, true, true, true, true, true, false, false, false, false] rfl rfl (any_of HT_.out (by kernel_rfl)) (fun _ _ _ h => h) (Or.inl ⟨by rfl, ?_⟩) ?_ ?_
                      rotate_left
                      · intro w'
                        go_simp
                        with_reducible rfl
                      rotate_left
                      · simp only [Act.put, List.setIfInBounds_toArray, List.set_cons_zero, List.set_cons_succ, i64_w, i32_w]
                        rfl
                      refine pure_ (i := 11) (N := some 87) (v := ?_) (a' := ?_) #[true, true, true, true, true, true, true, true, true, true, false, true, false, false] rfl rfl (any_of HT_.out (by kernel_rfl)) (fun _ _ _ h => h) (Or.inl ⟨by rfl, ?_⟩) ?_ ?_
                      rotate_left
                      · intro w'
                        go_simp
                        with_reducible rfl
                      rotate_left
                      · simp only [Act.put, List.setIfInBounds_toArray, List.set_cons_zero, List.set_cons_succ, i64_w, i32_w]
                        rfl
                      refine take_ (i := 10) (N := some 86) (v := ?_) (a' := ?_) #[true, true, true, true, true, true, true, true, true, true, true, true, false, false] rfl rfl (take_ofW HT_.out HW_.out (by kernel_rfl)) (fun _ _ _ h => h) (Or.inl ⟨by rfl, ?_⟩) hHeld ?_ ?_
                      rotate_left
                      · rintro w' ⟨s0, s1, s2⟩
                        go_simp
                        with_reducible rfl
                      rotate_left
                      · simp only [Act.put, List.setIfInBounds_toArray, List.set_cons_zero, List.set_cons_succ, i64_w, i32_w]
                        rfl
                      refine one_ (i := 12) (N := some 88) #[true, true, true, true, true, true, true, true, true, true, true, true, true, false] rfl rfl (one_of HT_.out (by kernel_rfl)) (by decide) (fun K hK => ?_)
                      refine goes_ Tryd.func81 (by kernel_rfl) rfl #[.agg #[.string (str p), .string (str b), .slice A ws.length c], .string (str (S[i] ++ [ch]))] (by rfl) rfl rfl (by (try simp only [List.map_toArray, List.map_cons, List.map_nil]); first | done | rfl) ?_
                      refine (HCLN.out _ (texts_below HTW3.out HBW5.out)).mono ?_
                      rintro e w7 ⟨rfl, hb⟩
                      have n1_ := Aside0.mk (HB5.out.trans (hb.mono HB5.out.size)); have n2_ := Aside0.mk (HR5.out.below hb HR5.out.lt); have n3_ := Aside0.mk (walker_below HW5.out hb HW5.out.lt); clear HB5 HR5 HW5 HBW5 hb; have HB5 := n1_; have HR5 := n2_; have HW5 := n3_; clear n1_ n2_ n3_; have HBW5 := Aside0.mk (HBW.out.trans (HB5.out.mono HBW.out.size))
                      refine ⟨_, rfl, ?_⟩
                      refine hK.out _ _ (HCELL.out _ HBW5.out) (fun hHeld => ?_)
                      clear hK K
                      refine norm_ (a' := ?_) ?_ ?_
                      rotate_left
                      · show Act.put _ (some 88) _ = _
                        simp only [Act.put, List.setIfInBounds_toArray, List.set_cons_zero, List.set_cons_succ, i64_w, i32_w]
                        rfl
                      refine pure_ (i := 13) (N := some 89) (v := ?_) (a' := ?_) #[true, true, true, true, true, true, true, true, true, true, true, true, true, true] rfl rfl (any_of HT_.out (by kernel_rfl)) (fun _ _ _ h => h) (Or.inl ⟨by rfl, ?_⟩) ?_ ?_
                      rotate_left
                      · intro w'
                        go_simp
                        with_reducible rfl
                      rotate_left
                      · simp only [Act.put, List.setIfInBounds_toArray, List.set_cons_zero, List.set_cons_succ, i64_w, i32_w]
                        rfl
                      refine done_ (done_of HT_.out (by kernel_rfl)) ?_
                      go_wp2
                      refine start_ (n := 15) (S := fun w' => w'.cell? ⟨w.heap.size, 0, none⟩ = some (.string (str p)) ∧ w'.cell? ⟨w.heap.size, 1, none⟩ = some (.string (str b)) ∧ w'.cell? ⟨w.heap.size, 2, none⟩ = some (.slice A ws.length c) ∧ w'.cell? ⟨V1.heap.size, i, none⟩ = some (.int .i64 (M : Int)) ∧ w'.cell? ⟨B, j, none⟩ = some (.int .i64 (V : Int))) (ds := [14]) #[false, false, false, false, false, false, false, false, false, false, false, false, false, false, false] (by kernel_rfl) rfl rfl (HCE5.out (below_drew1 HBW5.out) (below_drew1 HB5.out) (HR5.out.block rfl)) (fun hHeld => ?_); refine with_tabW plFrom.tab25 plFrom.bits25 (fun HT_ HW_ => ?_)
                      have n1_ := Aside0.mk (below_drew1 HB5.out)
                      have n2_ := Aside0.mk (Row.block (W' := w7.drew) HR5.out rfl)
                      have n3_ : Aside0 (Walker w7.drew V2.heap.size (str sg) (k + 1)) := ⟨HW5.out⟩
                      clear HB5 HR5 HW5 HBW5
                      have HB5 := n1_
                      have HR5 := n2_
                      have HW5 := n3_
                      clear n1_ n2_ n3_
                      generalize w7.drew = w8 at HB5 HR5 HW5 hHeld ⊢
                      have HBW5 := Aside0.mk (HBW.out.trans (HB5.out.mono HBW.out.size))
                      refine pure_ (i := 0) (N := some 90) (v := ?_) (a' := ?_) #[true, false, false, false, false, false, false, false, false, false, false, false, false, false, false] rfl rfl (any_of HT_.out (by kernel_rfl)) (fun _ _ _ h => h) (Or.inl ⟨by rfl, ?_⟩) ?_ ?_
                      rotate_left
                      · intro w'
                        go_simp
                        with_reducible rfl
                      rotate_left
                      · simp only [Act.put, List.setIfInBounds_toArray, List.set_cons_zero, List.set_cons_succ, i64_w, i32_w]
                        rfl
                      refine pure_ (i := 1) (N := some 91) (v := ?_) (a' := ?_) #[true, true, false, false, false, false, false, false, false, false, false, false, false, false, false] rfl rfl (any_of HT_.out (by kernel_rfl)) (fun _ _ _ h => h) (Or.inl ⟨by rfl, ?_⟩) ?_ ?_
                      rotate_left
                      · intro w'
                        go_simp
                        with_reducible rfl
                      rotate_left
                      · simp only [Act.put, List.setIfInBounds_toArray, List.set_cons_zero, List.set_cons_succ, i64_w, i32_w]
                        rfl
                      refine pure_ (i := 2) (N := some 92) (v := ?_) (a' := ?_) #[true, true, true, false, false, false, false, false, false, false, false, false, false, false, false] rfl rfl (any_of HT_.out (by kernel_rfl)) (fun _ _ _ h => h) (Or.inl ⟨by rfl, ?_⟩) ?_ ?_
                      rotate_left
                      · intro w'
                        go_simp
                        with_reducible rfl
                      rotate_left
                      · simp only [Act.put, List.setIfInBounds_toArray, List.set_cons_zero, List.set_cons_succ, i64_w, i32_w]
                        rfl
                      refine pure_ (i := 4) (N := some 94) (v := ?_) (a' := ?_) #[true, true, true, false, true, false, false, false, false, false, false, false, false, false, false] rfl rfl (any_of HT_.out (by kernel_rfl)) (fun _ _ _ h => h) (Or.inl ⟨by rfl, ?_⟩) ?_ ?_
                      rotate_left
                      · intro w'
                        go_simp
                        with_reducible rfl
                      rotate_left
                      · simp only [Act.put, List.setIfInBounds_toArray, List.set_cons_zero, List.set_cons_succ, i64_w, i32_w]
                        rfl
                      refine pure_ (i := 5) (N := some 95) (v := ?_) (a' := ?_) #[true, true, true, false, true, true, false, false, false, false, false, false, false, false, false] rfl rfl (any_of HT_.out (by kernel_rfl)) (fun _ _ _ h => h) (Or.inl ⟨by rfl, ?_⟩) ?_ ?_
                      rotate_left
                      · intro w'
                        go_simp
                        with_reducible rfl
                      rotate_left
                      · simp only [Act.put, List.setIfInBounds_toArray, List.set_cons_zero, List.set_cons_succ, i64_w, i32_w]
                        rfl
                      refine pure_ (i := 7) (N := some 97) (v := ?_) (a' := ?_) #[true, true, true, false, true, true, false, true, false, false, false, false, false, false, false] rfl rfl (any_of HT_.out (by kernel_rfl)) (fun _ _ _ h => h) (Or.inl ⟨by rfl, ?_⟩) ?_ ?_
                      rotate_left
                      · intro w'
                        go_simp
                        with_reducible rfl
                      rotate_left
                      · simp only [Act.put, List.setIfInBounds_toArray, List.set_cons_zero, List.set_cons_succ, i64_w, i32_w]
                        rfl
                      refine take_ (i := 3) (N := some 93) (v := ?_) (a' := ?_) #[true, true, true, true, true, true, false, true, false, false, false, false, false, false, false] rfl rfl (take_ofW HT_.out HW_.out (by kernel_rfl)) (fun _ _ _ h => h) (Or.inl ⟨by rfl, ?_⟩) hHeld ?_ ?_
                      rotate_left
                      · rintro w' ⟨s0, s1, s2, s3, s4⟩
                        go_simp
                        with_reducible rfl
                      rotate_left
                      · simp only [Act.put, List.setIfInBounds_toArray, List.set_cons_zero, List.set_cons_succ, i64_w, i32_w]
                        rfl
                      refine take_ (i := 6) (N := some 96) (v := ?_) (a' := ?_) #[true, true, true, true, true, true, true, true, false, false, false, false, false, false, false] rfl rfl (take_ofW HT_.out HW_.out (by kernel_rfl)) (fun _ _ _ h => h) (Or.inl ⟨by rfl, ?_⟩) hHeld ?_ ?_
                      rotate_left
                      · rintro w' ⟨s0, s1, s2, s3, s4⟩
                        go_simp
                        with_reducible rfl
                      rotate_left
                      · simp only [Act.put, List.setIfInBounds_toArray, List.set_cons_zero, List.set_cons_succ, i64_w, i32_w]
                        rfl
                      refine one_ (i := 8) (N := some 98) #[true, true, true, true, true, true, true, true, true, false, false, false, false, false, false] rfl rfl (one_of HT_.out (by kernel_rfl)) (by decide) (fun K hK => ?_)
                      refine goes_ Tryd.func84 (by kernel_rfl) rfl #[.agg #[.string (str p), .string (str b), .slice A ws.length c], .string (str (S[i] ++ [ch]))] (by rfl) rfl rfl (by (try simp only [List.map_toArray, List.map_cons, List.map_nil]); first | done | rfl) ?_
                      refine (HSTA.out _ (texts_below HTW3.out HBW5.out)).mono ?_
                      rintro e w9 ⟨rfl, hb⟩
                      have n1_ := Aside0.mk (HB5.out.trans (hb.mono HB5.out.size)); have n2_ := Aside0.mk (HR5.out.below hb HR5.out.lt); have n3_ := Aside0.mk (walker_below HW5.out hb HW5.out.lt); clear HB5 HR5 HW5 HBW5 hb; have HB5 := n1_; have HR5 := n2_; have HW5 := n3_; clear n1_ n2_ n3_; have HBW5 := Aside0.mk (HBW.out.trans (HB5.out.mono HBW.out.size))
                      refine ⟨_, rfl, ?_⟩
                      refine hK.out _ _ (HCE5.out HBW5.out HB5.out HR5.out) (fun hHeld => ?_)
                      clear hK K
                      refine norm_ (a' := ?_) ?_ ?_
                      rotate_left
                      · show Act.put _ (some 98) _ = _
                        simp only [Act.put, List.setIfInBounds_toArray, List.set_cons_zero, List.set_cons_succ, i64_w, i32_w]
                        rfl
                      refine one_ (i := 9) (N := some 99) #[true, true, true, true, true, true, true, true, true, true, false, false, false, false, false] rfl rfl (one_of HT_.out (by kernel_rfl)) (by decide) (fun K hK => ?_)
                      refine goes_ Tryd.func83 (by kernel_rfl) rfl #[.slice (some ad) S.length c1, .string (str (st ws (S[i] ++ [ch])))] (by rfl) rfl rfl (by (try simp only [List.map_toArray, List.map_cons, List.map_nil]); first | done | rfl) ?_
                      refine (HIDX.out _ _ _ (texts_below HTS3.out HBW5.out)).mono ?_
                      rintro e w' ⟨rfl, ⟨nd2, rfl⟩⟩
                      have hb := pw_below_drewN (Below.refl w9.heap.size w9) nd2
                      generalize World.drewN w9 nd2 = w10 at hb ⊢
                      have n1_ := Aside0.mk (HB5.out.trans (hb.mono HB5.out.size)); have n2_ := Aside0.mk (HR5.out.below hb HR5.out.lt); have n3_ := Aside0.mk (walker_below HW5.out hb HW5.out.lt); clear HB5 HR5 HW5 HBW5 hb; have HB5 := n1_; have HR5 := n2_; have HW5 := n3_; clear n1_ n2_ n3_; have HBW5 := Aside0.mk (HBW.out.trans (HB5.out.mono HBW.out.size))
                      refine ⟨_, rfl, ?_⟩
                      refine hK.out _ _ (HCE5.out HBW5.out HB5.out HR5.out) (fun hHeld => ?_)
                      clear hK K
                      refine norm_ (a' := ?_) ?_ ?_
                      rotate_left
                      · show Act.put _ (some 99) _ = _
                        simp only [Act.put, List.setIfInBounds_toArray, List.set_cons_zero, List.set_cons_succ, i64_w, i32_w]
                        rfl
                      refine pure_ (i := 10) (N := some 100) (v := ?_) (a' := ?_) #[true, true, true, true, true, true, true, true, true, true, true, false, false, false, false] rfl rfl (any_of HT_.out (by kernel_rfl)) (fun _ _ _ h => h) (Or.inl ⟨by rfl, ?_⟩) ?_ ?_
                      rotate_left
                      · intro w'
                        go_simp
                        with_reducible rfl
                      rotate_left
                      · simp only [Act.put, List.setIfInBounds_toArray, List.set_cons_zero, List.set_cons_succ, i64_w, i32_w]
                        rfl
                      refine take_ (i := 11) (N := some 101) (v := ?_) (a' := ?_) #[true, true, true, true, true, true, true, true, true, true, true, true, false, false, false] rfl rfl (take_ofW HT_.out HW_.out (by kernel_rfl)) (fun _ _ _ h => h) (Or.inl ⟨by rfl, ?_⟩) hHeld ?_ ?_
                      rotate_left
                      · rintro w' ⟨s0, s1, s2, s3, s4⟩
                        go_simp
                        with_reducible rfl
                      rotate_left
                      · simp only [Act.put, List.setIfInBounds_toArray, List.set_cons_zero, List.set_cons_succ, i64_w, i32_w]
                        rfl
                      refine pure_ (i := 12) (N := some 102) (v := ?_) (a' := ?_) #[true, true, true, true, true, true, true, true, true, true, true, true, true, false, false] rfl rfl (any_of HT_.out (by kernel_rfl)) (fun _ _ _ h => h) (Or.inl ⟨by rfl, ?_⟩) ?_ ?_
                      rotate_left
                      · intro w'
                        go_simp
                        with_reducible rfl
                      rotate_left
                      · simp only [Act.put, List.setIfInBounds_toArray, List.set_cons_zero, List.set_cons_succ, i64_w, i32_w]
                        rfl
                      refine pure_ (i := 13) (N := some 103) (v := ?_) (a' := ?_) #[true, true, true, true, true, true, true, true, true, true, true, true, true, true, false] rfl rfl (any_of HT_.out (by kernel_rfl)) (fun _ _ _ h => h) (Or.inl ⟨by rfl, ?_⟩) ?_ ?_
                      rotate_left
                      · intro w'
                        go_simp
                        with_reducible rfl
                      rotate_left
                      · simp only [Act.put, List.setIfInBounds_toArray, List.set_cons_zero, List.set_cons_succ, i64_w, i32_w]
                        rfl
                      refine last_ (i := 14) (N := none) #[true, true, true, true, true, true, true, true, true, true, true, true, true, true, true] rfl rfl (one_of HT_.out (by kernel_rfl)) (by decide) (fun K hK => ?_)
                      have hce := (CE0.out _ HBW5.out HB5.out HR5.out).1
                      have hfz := HR5.out.frozen i
                      refine skip_ (w1 := w10.setCell ⟨V1.heap.size, i, none⟩ (.int .i64 ((M + V : Nat) : Int))) (by rfl) rfl (by go_simp) ?_
                      refine hK.out _ _ ?_
                      clear hK K
                      refine done_ (done_of HT_.out (by kernel_rfl)) ?_
                      go_wp2
                      go_roundg (sg.length - k)
                      case measure => omega
                      case rel => exact ⟨k + 1, by omega, by omega, ⟨walker_set HW5.out _ _ (Nat.ne_of_gt HR2.out.lt)⟩, ⟨(HR5.out.set i (M + V) hi).imp (fun j hj => by
                        by_cases e : j = i
                        · subst e; rw [if_pos rfl, if_neg (Nat.lt_irrefl _), if_pos rfl, HP1.out]
                        · rw [if_neg e, if_neg e, if_neg e])⟩, ⟨HB5.out.setCell (Nat.le_refl _) _⟩⟩
                    · rw [cleanB_false hcl] at HCLN
                      rw [term_no (fun h => hcl h.2)] at HP1
                      clear hcb hcl
                      refine start_ (n := 14) (S := fun w' => w'.cell? ⟨w.heap.size, 0, none⟩ = some (.string (str p)) ∧ w'.cell? ⟨w.heap.size, 1, none⟩ = some (.string (str b)) ∧ w'.cell? ⟨w.heap.size, 2, none⟩ = some (.slice A ws.length c)) (ds := []) #[false, false, false, false, false, false, false, false, false, false, false, false, false, false] (by kernel_rfl) rfl rfl (HCELL.out _ (below_drew1 HBW4.out)) (fun hHeld => ?_); refine with_tabW plFrom.tab24 plFrom.bits24 (fun HT_ HW_ => ?_)
                      have HB5 := Aside0.mk (below_drew1 HB4.out)
                      have HR5 := Aside0.mk (Row.block (W' := w4.drew) HR4.out rfl)
                      have HW5 : Aside0 (Walker w4.drew V2.heap.size (str sg) (k + 1)) := ⟨HW4.out⟩
                      generalize w4.drew = w5 at HB5 HR5 HW5 hHeld ⊢
                      have HBW5 := Aside0.mk (HBW.out.trans (HB5.out.mono HBW.out.size))
                      clear HB4 HR4 HW4 HBW4
                      refine pure_ (i := 0) (N := some 76) (v := ?_) (a' := ?_) #[true, false, false, false, false, false, false, false, false, false, false, false, false, false] rfl rfl (any_of HT_.out (by kernel_rfl)) (fun _ _ _ h => h) (Or.inl ⟨by rfl, ?_⟩) ?_ ?_
                      rotate_left
                      · intro w'
                        go_simp
                        with_reducible rfl
                      rotate_left
                      · simp only [Act.put, List.setIfInBounds_toArray, List.set_cons_zero, List.set_cons_succ, i64_w, i32_w]
                        rfl
                      refine pure_ (i := 2) (N := some 78) (v := ?_) (a' := ?_) #[true, false, true, false, false, false, false, false, false, false, false, false, false, false] rfl rfl (any_of HT_.out (by kernel_rfl)) (fun _ _ _ h => h) (Or.inl ⟨by rfl, ?_⟩) ?_ ?_
                      rotate_left
                      · intro w'
                        go_simp
                        with_reducible rfl
                      rotate_left
                      · simp only [Act.put, List.setIfInBounds_toArray, List.set_cons_zero, List.set_cons_succ, i64_w, i32_w]
                        rfl
                      refine pure_ (i := 3) (N := some 79) (v := ?_) (a' := ?_) #[true, false, true, true, false, false, false, false, false, false, false, false, false, false] rfl rfl (any_of HT_.out (by kernel_rfl)) (fun _ _ _ h => h) (Or.inl ⟨by rfl, ?_⟩) ?_ ?_
                      rotate_left
                      · intro w'
                        go_simp
                        with_reducible rfl
                      rotate_left
                      · simp only [Act.put, List.setIfInBounds_toArray, List.set_cons_zero, List.set_cons_succ, i64_w, i32_w]
                        rfl
                      refine pure_ (i := 4) (N := some 80) (v := ?_) (a' := ?_) #[true, false, true, true, true, false, false, false, false, false, false, false, false, false] rfl rfl (any_of HT_.out (by kernel_rfl)) (fun _ _ _ h => h) (Or.inl ⟨by rfl, ?_⟩) ?_ ?_
                      rotate_left
                      · intro w'
                        go_simp
                        with_reducible rfl
                      rotate_left
                      · simp only [Act.put, List.setIfInBounds_toArray, List.set_cons_zero, List.set_cons_succ, i64_w, i32_w]
                        rfl
                      refine pure_ (i := 5) (N := some 81) (v := ?_) (a' := ?_) #[true, false, true, true, true, true, false, false, false, false, false, false, false, false] rfl rfl (any_of HT_.out (by kernel_rfl)) (fun _ _ _ h => h) (Or.inl ⟨by rfl, ?_⟩) ?_ ?_
                      rotate_left
                      · intro w'
                        go_simp
                        with_reducible rfl
                      rotate_left
                      · simp only [Act.put, List.setIfInBounds_toArray, List.set_cons_zero, List.set_cons_succ, i64_w, i32_w]
                        rfl
                      refine pure_ (i := 6) (N := some 82) (v := ?_) (a' := ?_) #[true, false, true, true, true, true, true, false, false, false, false, false, false, false] rfl rfl (any_of HT_.out (by kernel_rfl)) (fun _ _ _ h => h) (Or.inl ⟨by rfl, ?_⟩) ?_ ?_
                      rotate_left
                      · intro w'
                        go_simp
                        with_reducible rfl
                      rotate_left
                      · simp only [Act.put, List.setIfInBounds_toArray, List.set_cons_zero, List.set_cons_succ, i64_w, i32_w]
                        rfl
                      refine take_ (i := 1) (N := some 77) (v := ?_) (a' := ?_) #[true, true, true, true, true, true, true, false, false, false, false, false, false, false] rfl rfl (take_ofW HT_.out HW_.out (by kernel_rfl)) (fun _ _ _ h => h) (Or.inl ⟨by rfl, ?_⟩) hHeld ?_ ?_
                      rotate_left
                      · rintro w' ⟨s0, s1, s2⟩
                        go_simp
                        with_reducible rfl
                      rotate_left
                      · simp only [Act.put, List.setIfInBounds_toArray, List.set_cons_zero, List.set_cons_succ, i64_w, i32_w]
                        rfl
                      refine one_ (i := 7) (N := some 83) #[true, true, true, true, true, true, true, true, false, false, false, false, false, false] rfl rfl (one_of HT_.out (by kernel_rfl)) (by decide) (fun K hK => ?_)
                      refine goes_ Tryd.func49 (by kernel_rfl) rfl #[.string (str b), .string (str [ch])] (by rfl) rfl rfl (by (try simp only [List.map_toArray, List.map_cons, List.map_nil]); first | done | rfl) ?_
                      refine (HHAS.out _).mono ?_
                      rintro e w' ⟨rfl, ⟨nd, rfl⟩⟩
                      have hb := pw_below_drewN (Below.refl w5.heap.size w5) nd
                      generalize World.drewN w5 nd = w6 at hb ⊢
                      have n1_ := Aside0.mk (HB5.out.trans (hb.mono HB5.out.size)); have n2_ := Aside0.mk (HR5.out.below hb HR5.out.lt); have n3_ := Aside0.mk (walker_below HW5.out hb HW5.out.lt); clear HB5 HR5 HW5 HBW5 hb; have HB5 := n1_; have HR5 := n2_; have HW5 := n3_; clear n1_ n2_ n3_; have HBW5 := Aside0.mk (HBW.out.trans (HB5.out.mono HBW.out.size))
                      refine ⟨_, rfl, ?_⟩
                      refine hK.out _ _ (HCELL.out _ HBW5.out) (fun hHeld => ?_)
                      clear hK K
                      refine norm_ (a' := ?_) ?_ ?_
                      rotate_left
                      · show Act.put _ (some 83) _ = _
                        simp only [Act.put, List.setIfInBounds_toArray, List.set_cons_zero, List.set_cons_succ, i64_w, i32_w]
                        rfl
                      refine pure_ (i := 8) (N := some 84) (v := ?_) (a' := ?_) #[true, true, true, true, true, true, true, true, true, false, false, false, false, false] rfl rfl (any_of HT_.out (by kernel_rfl)) (fun _ _ _ h => h) (Or.inl ⟨by rfl, ?_⟩) ?_ ?_
                      rotate_left
                      · intro w'
                        go_simp
                        with_reducible rfl
                      rotate_left
                      · simp only [Act.put, List.setIfInBounds_toArray, List.set_cons_zero, List.set_cons_succ, i64_w, i32_w]
                        rfl
                      refine pure_ (i := 9) (N := some 85) (v := ?_) (a' := ?_) #[true, true, true, true, true, true, true, true, true, true, false, false, false, false] rfl rfl (any_of HT_.out (by kernel_rfl)) (fun _ _ _ h => h) (Or.inl ⟨by rfl, ?_⟩) ?_ ?_
                      rotate_left
                      · intro w'
                        go_simp
                        with_reducible rfl
                      rotate_left
                      · simp only [Act.put, List.setIfInBounds_toArray, List.set_cons_zero, List.set_cons_succ, i64_w, i32_w]
                        rfl
                      refine pure_ (i := 11) (N := some 87) (v := ?_) (a' := ?_) #[true, true, true, true, true, true, true, true, true, true, false, true, false, false] rfl rfl (any_of HT_.out (by kernel_rfl)) (fun _ _ _ h => h) (Or.inl ⟨by rfl, ?_⟩) ?_ ?_
                      rotate_left
                      · intro w'
                        go_simp
                        with_reducible rfl
                      rotate_left
                      · simp only [Act.put, List.setIfInBounds_toArray, List.set_cons_zero, List.set_cons_succ, i64_w, i32_w]
                        rfl
                      refine take_ (i := 10) (N := some 86) (v := ?_) (a' := ?_) #[true, true, true, true, true, true, true, true, true, true, true, true, false, false] rfl rfl (take_ofW HT_.out HW_.out (by kernel_rfl)) (fun _ _ _ h => h) (Or.inl ⟨by rfl, ?_⟩) hHeld ?_ ?_
                      rotate_left
                      · rintro w' ⟨s0, s1, s2⟩
                        go_simp
                        with_reducible rfl
                      rotate_left
                      · simp only [Act.put, List.setIfInBounds_toArray, List.set_cons_zero, List.set_cons_succ, i64_w, i32_w]
                        rfl
                      refine one_ (i := 12) (N := some 88) #[true, true, true, true, true, true, true, true, true, true, true, true, true, false] rfl rfl (one_of HT_.out (by kernel_rfl)) (by decide) (fun K hK => ?_)
                      refine goes_ Tryd.func81 (by kernel_rfl) rfl #[.agg #[.string (str p), .string (str b), .slice A ws.length c], .string (str (S[i] ++ [ch]))] (by rfl) rfl rfl (by (try simp only [List.map_toArray, List.map_cons, List.map_nil]); first | done | rfl) ?_
                      refine (HCLN.out _ (texts_below HTW3.out HBW5.out)).mono ?_
                      rintro e w7 ⟨rfl, hb⟩
                      have n1_ := Aside0.mk (HB5.out.trans (hb.mono HB5.out.size)); have n2_ := Aside0.mk (HR5.out.below hb HR5.out.lt); have n3_ := Aside0.mk (walker_below HW5.out hb HW5.out.lt); clear HB5 HR5 HW5 HBW5 hb; have HB5 := n1_; have HR5 := n2_; have HW5 := n3_; clear n1_ n2_ n3_; have HBW5 := Aside0.mk (HBW.out.trans (HB5.out.mono HBW.out.size))
                      refine ⟨_, rfl, ?_⟩
                      refine hK.out _ _ (HCELL.out _ HBW5.out) (fun hHeld => ?_)
                      clear hK K
                      refine norm_ (a' := ?_) ?_ ?_
                      rotate_left
                      · show Act.put _ (some 88) _ = _
                        simp only [Act.put, List.setIfInBounds_toArray, List.set_cons_zero, List.set_cons_succ, i64_w, i32_w]
                        rfl
                      refine pure_ (i := 13) (N := some 89) (v := ?_) (a' := ?_) #[true, true, true, true, true, true, true, true, true, true, true, true, true, true] rfl rfl (any_of HT_.out (by kernel_rfl)) (fun _ _ _ h => h) (Or.inl ⟨by rfl, ?_⟩) ?_ ?_
                      rotate_left
                      · intro w'
                        go_simp
                        with_reducible rfl
                      rotate_left
                      · simp only [Act.put, List.setIfInBounds_toArray, List.set_cons_zero, List.set_cons_succ, i64_w, i32_w]
                        rfl
                      refine done_ (done_of HT_.out (by kernel_rfl)) ?_
                      go_wp2
                      go_roundg (sg.length - k)
                      case measure => omega
                      case rel => exact ⟨k + 1, by omega, by omega, HW5, ⟨HR5.out.imp (fun j hj => by simp only [HP1.out, Nat.add_zero])⟩, HB5⟩
                  · obtain rfl : k = sg.length := by omega
                    have hnx : ∀ ty, (Instr.next (.pointer (some ⟨V2.heap.size, 0, none⟩)) true ty).run Tryd.prog V3 = _ := fun ty => next_none V3 V2.heap.size (str sg) sg.length ty HW3.out (by rw [str_size]; exact hk)
                    have HEQ : Aside0 (cnt b ws (p.drop a) S[i] = part b ws (p.drop (a + 1)) S[i] sg sg.length) := ⟨by rw [hdrop.out, cnt_part, ← HSG.out]⟩
                    go_wp2
                    go_roundg (S.length - i)
                    case measure => omega
                    case rel => exact ⟨i + 1, by first | rfl | go_num, by omega, by omega, ⟨HR3.out.imp (fun j hj => by
                      by_cases e : j = i
                      · subst e; rw [if_neg (Nat.lt_irrefl _), if_pos rfl, if_pos (Nat.lt_succ_self _), HSD.out, HEQ.out]
                      · by_cases e2 : j < i
                        · rw [if_pos e2, if_pos (by omega)]
                        · rw [if_neg e2, if_neg e, if_neg (by omega)])⟩, HB3⟩
              · obtain rfl : i = S.length := by omega
                go_wp2
                go_roundg (a + 1 - t.length)
                case measure => omega
                case rel => exact ⟨a, V1.heap.size, by first | rfl | go_num, rfl, by omega, by omega, by omega, ⟨HBW.out.size⟩, ⟨HR2.out.imp (fun j hj => by rw [if_pos hj])⟩, ⟨HBW.out.trans (HB2.out.mono HBW.out.size)⟩⟩
        · obtain rfl : q = t.length := by omega
          obtain ⟨k0, k1, k2⟩ := HCELL.out _ HBW.out
          have HSTA := Aside0.mk (fun W (h : Texts W A c ws) => plState_any (p := p) (b := b) t ht HTS.out (by omega) HWL.out W h)
          obtain ⟨j, hj, ej, hidx⟩ := plIndex_any S (st ws t) (by omega) (HST.out _)
          have HIDX := Aside0.mk hidx
          have HEQ : Aside0 (cnt b ws (p.drop t.length) (S.getD j []) = fromN p b ws t) := ⟨by rw [hV.out, List.getD_eq_getElem?_getD, List.getElem?_eq_getElem hj, Option.getD_some, ej, ← cnt_st _ _ HCT.out]⟩
          clear ej hidx
          go_wp2_with (first | (go_at_call 84; refine (HSTA.out _ (texts_below HTW3.out HBW.out)).mono ?_; rintro e w5 ⟨rfl, hb⟩; have HBW5 := Aside0.mk (HBW.out.trans (hb.mono HBW.out.size)); have kv := (HRB.out.below hb HRB.out.lt).cell j hj; rw [HEQ.out] at kv; clear hb k0 k1 k2) | (go_at_call 83; refine (HIDX.out _ _ _ (texts_below HTS3.out HBW5.out)).mono ?_; rintro e w' ⟨rfl, ⟨nd, rfl⟩⟩))
          go_ret
          exact ⟨rfl, pw_below_drewN (HB3.out.trans (HBW5.out.mono HB3.out.size)) _⟩
end Go.Proofs.YtoieadofldkccaaDoor.Plates
