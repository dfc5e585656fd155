/-
  Plates: counter.rank counts the plates that come before one.
-/
import Derived.Test.YtoieadofldkccaaDoorHPRanks
namespace Go.Proofs.YtoieadofldkccaaDoor.Plates
open Go.RowKit Go.Proofs.YtoieadofldkccaaDoorW.PrintWords Go.Proofs.YtoieadofldkccaaDoorW.PrintLast Go.Proofs.YtoieadofldkccaaDoorW.PrintMore Go.Proofs.YtoieadofldkccaaDoor.PFnExactCountBeginning
open PFake (ML ml_below)
set_option linter.unusedVariables false
set_option linter.unusedSimpArgs false

/-- the box of a counter -/
abbrev boxC (p b : T) (A : Option Addr) (n c bm : Nat) : Obj := .cells #[.string (str p), .string (str b), .slice A n c, .map (some bm)] 58 (0, 0)
theorem boxC_cells {W : World} {B : Nat} {p b : T} {A : Option Addr} {n c bm : Nat} (h : W.heap[B]? = some (boxC p b A n c bm)) :
    W.cell? ⟨B, 0, none⟩ = some (.string (str p)) ∧ W.cell? ⟨B, 1, none⟩ = some (.string (str b)) ∧ W.cell? ⟨B, 2, none⟩ = some (.slice A n c) ∧ W.cell? ⟨B, 3, none⟩ = some (.map (some bm)) :=
  ⟨(Go.Joins.cell_of_block h 0).trans rfl, (Go.Joins.cell_of_block h 1).trans rfl, (Go.Joins.cell_of_block h 2).trans rfl, (Go.Joins.cell_of_block h 3).trans rfl⟩
theorem grown_box {W W' : World} {B bm : Nat} {x : Obj} (h : W.grownBy W' (some bm)) (hx : W.heap[B]? = some x) (hne : bm < B) : W'.heap[B]? = some x :=
  (h.block B (Array.getElem?_eq_some_iff.1 hx).1 (fun e => by have := Option.some.inj e; omega)).trans hx
theorem below_box {W W' : World} {B : Nat} {x : Obj} (h : Below W.heap.size W W') (hx : W.heap[B]? = some x) : W'.heap[B]? = some x :=
  (h.block B (Array.getElem?_eq_some_iff.1 hx).1).trans hx
theorem getD_of (l : T) (i : Nat) (h : i < l.length) : l.getD i 0 = l[i] := by rw [List.getD_eq_getElem?_getD, List.getElem?_eq_getElem h]; rfl
theorem extract_take (t : T) (i : Nat) : (str t).extract 0 i = str (t.take i) := by rw [extract_str]; rfl

/-- what a call of rank leaves -/
def RankPost (p b : T) (ws : List T) (bm n : Nat) (v : Nat) (w : World) (e : Ending) (w' : World) : Prop :=
  e = .returned (.int .i64 (v : Nat)) ∧ Aside0 (Memo p b ws w' bm (n + 100000000000000)) ∧ Aside0 (w.grownBy w' (some bm))

def rank.T9 : Bool × List (List Nat × List Nat) := (true, [([], []), ([], []), ([], []), ([], []), ([2, 3], [2, 3]), ([], []), ([5], [5]), ([6], [6]), ([4, 7], [4, 7]), ([1, 8], [1, 8]), ([0, 9], [0, 9]), ([10, 9, 0, 1, 2, 3, 4, 5, 6, 7, 8, 9, 10], [0, 10])])
def rank.B9 : List Nat := [0, 0, 0, 0, 12, 0, 32, 96, 252, 510, 1023, 2047]
theorem rank.tab9 : rtab .any (opsOf Tryd.f64 9) = rank.T9 := by kernel_rfl
theorem rank.bits9 : waitsOk rank.T9.2 rank.B9 = true := by kernel_rfl

set_option maxRecDepth 100000 in
set_option maxHeartbeats 8000000 in
theorem rank_any {p b : T} {ws : List T} (G : Good p b ws) {A : Option Addr} {c : Nat} (w0 : World) (hT0 : Texts w0 A c ws) (hM0 : ML w0) (bm : Nat) (hbm : w0.heap.size ≤ bm) (t : T) (ht : t.length ≤ p.length) (n : Nat) (hn : n + 100000000000000 ≤ 1000000000000000000) (w : World) (HB : Below w0.heap.size w0 w) (HM : Memo p b ws w bm n) :
    Calls Tryd.prog 64 #[counterV p b A ws.length c (.map (some bm)), .string (str t)] w (RankPost p b ws bm n (rankN p b ws t) w) := by
  have hsp := str_size p
  have hsz := str_size t
  have p8 := G.p8
  have hl := G.w3
  have hbw : Aside0 (bm < w.heap.size) := ⟨HM.lt⟩
  have HB0 := Aside0.mk HB
  have HMM := Aside0.mk HM
  have HT0 := Aside0.mk hT0
  have HM0 := Aside0.mk hM0
  have HG := Aside0.mk G
  clear HB HM hT0 hM0 G
  go_enter Tryd.func64, Tryd.ntmps64
  go_wp2
  go_loopg [5, 11] (t.length + 1) (fun gg v5 v11 wr => ∃ i : Nat, v5 = .int .i64 (rankTo p b ws t i : Nat) ∧ v11 = .int .i64 i ∧ i ≤ t.length ∧ t.length - i < gg ∧ Aside0 (Memo p b ws wr bm (n + i * 26 * 282429536481)) ∧ Aside0 (wr.heap[w.heap.size]? = some (boxC p b A ws.length c bm)) ∧ Aside0 (w.grownBy wr (some bm)))
  case atStart => exact ⟨0, rfl, rfl, by omega, by omega, ⟨(HMM.out.below ((Below.refl w.heap.size w).alloc (Nat.le_refl _) _) HMM.out.lt).mono (by omega)⟩, ⟨al_new _ _ _ rfl⟩, ⟨World.grownBy_alloc _ _ _⟩⟩
  case round =>
    rename World => V1
    obtain ⟨i, rfl, rfl, i1, i2, HMW, HX, HGW⟩ := hrel
    by_cases hi : i < t.length
    · have hip : i < p.length := by omega
      have hrb := rankTo_le b ws t p8 i
      have HRS : Aside0 (rankTo p b ws t (i + 1) = rankTo p b ws t i + before p b ws t i) := ⟨by rw [rankTo]⟩
      have HBA := Aside0.mk (before_allowed p b ws t i)
      have HSK := Aside0.mk (fun al k => sumK_succ (less p b ws t i) al k)
      have HSL := Aside0.mk (fun al k => sumK_le (less p b ws t i) al k 208827064576 (fun c => less_le b ws t i c p8))
      have HLS : Aside0 (∀ ch : UInt8, less p b ws t i ch = if ch.toNat < t[i].toNat then fromN p b ws (t.take i ++ [ch]) else 0) := ⟨fun ch => by unfold less; rw [getD_of t i hi]⟩
      rw [getD_of p i hip] at HBA
      have HAL := Aside0.mk (fun W (h : Texts W A c ws) => allowed_own (b := b) i hip W h)
      have hal := allowed_length b p[i]
      generalize allowedL b p[i] = al at HBA HAL hal
      generalize rankTo p b ws t i = R0 at hrb HRS ⊢
      have HV1 := Aside0.mk (HB0.out.trans (below_grown HGW.out hbm HB0.out.size))
      obtain ⟨k0, k1, k2, k3⟩ := boxC_cells HX.out
      go_wp2_with (go_at_call 86; refine (HAL.out _ (texts_below HT0.out HV1.out)).mono ?_; rintro e w4 ⟨A4, c4, rfl, hR4, hb4⟩; have HR4 := Aside0.mk hR4; have HB4 := Aside0.mk hb4; have HX4 := Aside0.mk (below_box hb4 HX.out); have HM4 := Aside0.mk (HMW.out.below hb4 HMW.out.lt); have HG4 := Aside0.mk (grown_trans HGW.out (grown_below hb4 _)); clear hR4 hb4)
      clear k0 k1 k2 k3
      go_loopg [5, 19] (al.length + 1) (fun gg v5 v19 wr => ∃ k : Nat, v5 = .int .i64 (R0 + sumK (less p b ws t i) al k : Nat) ∧ v19 = .int .i64 k ∧ k ≤ al.length ∧ al.length - k < gg ∧ Aside0 (Memo p b ws wr bm (n + (i * 26 + k) * 282429536481)) ∧ Aside0 (w4.grownBy wr (some bm)))
      case atStart => exact ⟨0, rfl, rfl, by omega, by omega, ⟨HM4.out.mono (by omega)⟩, ⟨grown_below (Below.refl _ w4) _⟩⟩
      case round =>
        rename World => V2
        obtain ⟨k, rfl, rfl, j1, j2, HM5, HG5⟩ := hrel
        have HX5 := Aside0.mk (grown_box HG5.out HX4.out hbw.out)
        have HGW5 := Aside0.mk (grown_trans HG4.out HG5.out)
        have HV5 := Aside0.mk (HB0.out.trans (below_grown HGW5.out hbm HB0.out.size))
        by_cases hk : k < al.length
        · obtain ⟨ad, eA, hx⟩ := list_at HR4.out (W := V2) (fun q h1 h2 => HG5.out.block q h2 (fun e => by have := Option.some.inj e; have := hbw.out; have := HGW.out.size; omega)) k hk
          subst eA
          have HSU := Aside0.mk (HSK.out al k hk)
          have hsl := HSL.out al k
          have hsl' : sumK (less p b ws t i) al k ≤ 5429503678976 := by omega
          clear hsl
          obtain ⟨ch, hch⟩ : ∃ ch, ch = al[k] := ⟨_, rfl⟩
          rw [← hch] at HSU hx
          clear hch
          have HLC := Aside0.mk (HLS.out ch)
          obtain ⟨q, hq⟩ : ∃ q, q = ch.toNat := ⟨_, rfl⟩
          obtain ⟨m, hm⟩ : ∃ m, m = t[i].toNat := ⟨_, rfl⟩
          have hbt : ((str t)[i]'(by rw [str_size]; exact hi)).toNat = m := hm.symm
          rw [← hq, ← hm] at HLC
          rw [← hq] at hx
          clear hm
          generalize sumK (less p b ws t i) al k = M at HSU hsl' ⊢
          by_cases hqm : q < m
          · rw [if_pos hqm] at HLC
            have hqm2 : ((q : Int) < m) = True := by simp; omega
            have hv := fromN_le b ws (t.take i ++ [ch]) p8
            have HBG := Aside0.mk (fun W hB hM => beginning_any HG.out w0 HT0.out HM0.out bm hbm (t.take i ++ [ch]) (by rw [List.length_append, List.length_take, List.length_singleton]; omega) (n + (i * 26 + k) * 282429536481) (by omega) W hB hM)
            generalize fromN p b ws (t.take i ++ [ch]) = V at HLC hv HBG
            rw [HLC.out] at HSU
            have hcv := fun W => conv_one ch (q : Int) (by rw [hq]) W
            have ex := extract_take t i
            have eap : str (t.take i) ++ str [ch] = str (t.take i ++ [ch]) := str_append _ _
            have eMV : wrap64 ((R0 : Int) + M + V) = ((R0 + M + V : Nat) : Int) := by rw [wi (by omega) (by omega)]; omega
            have hcat : (9223372036854775807 < i + 1) = False := by simp; omega
            clear hqm hq HLC
            go_wp2
            have HM5' : Aside0 (Memo p b ws V2.drew bm (n + (i * 26 + k) * 282429536481)) := ⟨HM5.out.block rfl⟩
            have HX5' : Aside0 (V2.drew.heap[w.heap.size]? = some (boxC p b A ws.length c bm)) := ⟨HX5.out⟩
            have HG5' : Aside0 (w4.grownBy V2.drew (some bm)) := ⟨grown_trans HG5.out (grown_below (below_drew1 (Below.refl _ V2)) _)⟩
            have HV5' := Aside0.mk (below_drew1 HV5.out)
            refine start_ (n := 12) (S := fun w' => w'.cell? ⟨w.heap.size, 0, none⟩ = some (.string (str p)) ∧ w'.cell? ⟨w.heap.size, 1, none⟩ = some (.string (str b)) ∧ w'.cell? ⟨w.heap.size, 2, none⟩ = some (.slice A ws.length c) ∧ w'.cell? ⟨w.heap.size, 3, none⟩ = some (.map (some bm))) (ds := []) #[false, false, false, false, false, false, false, false, false, false, false, false] (by kernel_rfl) rfl rfl (boxC_cells HX5'.out) (fun hHeld => ?_); refine with_tabW rank.tab9 rank.bits9 (fun HT_ HW_ => ?_)
            generalize V2.drew = w5 at HM5' HX5' HG5' HV5' hHeld ⊢
            refine pure_ (i := 0) (N := some 28) (v := ?_) (a' := ?_) #[true, false, false, false, false, false, false, false, false, false, false, false] rfl rfl (any_of HT_.out (by kernel_rfl)) (fun _ _ _ h => h) (Or.inl ⟨by rfl, ?_⟩) ?_ ?_
            rotate_left
            · intro w'
              go_simp
              with_reducible rfl
            rotate_left
            · simp only [Act.put, List.setIfInBounds_toArray, List.set_cons_zero, List.set_cons_succ, i64_w, i32_w]
              rfl
            refine take_ (i := 1) (N := some 29) (v := ?_) (a' := ?_) #[true, true, false, false, false, false, false, false, false, false, false, false] rfl rfl (take_ofW HT_.out HW_.out (by kernel_rfl)) (fun _ _ _ h => h) (Or.inl ⟨by rfl, ?_⟩) hHeld ?_ ?_
            rotate_left
            · rintro w' ⟨s0, s1, s2, s3⟩
              go_simp
              with_reducible rfl
            rotate_left
            · simp only [Act.put, List.setIfInBounds_toArray, List.set_cons_zero, List.set_cons_succ, i64_w, i32_w]
              rfl
            refine pure_ (i := 2) (N := some 30) (v := ?_) (a' := ?_) #[true, true, true, false, false, false, false, false, false, false, false, false] rfl rfl (any_of HT_.out (by kernel_rfl)) (fun _ _ _ h => h) (Or.inl ⟨by rfl, ?_⟩) ?_ ?_
            rotate_left
            · intro w'
              go_simp
              with_reducible rfl
            rotate_left
            · simp only [Act.put, List.setIfInBounds_toArray, List.set_cons_zero, List.set_cons_succ, i64_w, i32_w]
              rfl
            refine pure_ (i := 3) (N := some 31) (v := ?_) (a' := ?_) #[true, true, true, true, false, false, false, false, false, false, false, false] rfl rfl (any_of HT_.out (by kernel_rfl)) (fun _ _ _ h => h) (Or.inl ⟨by rfl, ?_⟩) ?_ ?_
            rotate_left
            · intro w'
              go_simp
              with_reducible rfl
            rotate_left
            · simp only [Act.put, List.setIfInBounds_toArray, List.set_cons_zero, List.set_cons_succ, i64_w, i32_w]
              rfl
            refine pure_ (i := 4) (N := some 32) (v := ?_) (a' := ?_) #[true, true, true, true, true, false, false, false, false, false, false, false] rfl rfl (any_of HT_.out (by kernel_rfl)) (fun _ _ _ h => h) (Or.inl ⟨by rfl, ?_⟩) ?_ ?_
            rotate_left
            · intro w'
              go_simp
              with_reducible rfl
            rotate_left
            · simp only [Act.put, List.setIfInBounds_toArray, List.set_cons_zero, List.set_cons_succ, i64_w, i32_w]
              rfl
            refine pure_ (i := 5) (N := some 33) (v := ?_) (a' := ?_) #[true, true, true, true, true, true, false, false, false, false, false, false] rfl rfl (any_of HT_.out (by kernel_rfl)) (fun _ _ _ h => h) (Or.inl ⟨by rfl, ?_⟩) ?_ ?_
            rotate_left
            · intro w'
              go_simp
              with_reducible rfl
            rotate_left
            · simp only [Act.put, List.setIfInBounds_toArray, List.set_cons_zero, List.set_cons_succ, i64_w, i32_w]
              rfl
            refine one_ (i := 6) (N := some 34) #[true, true, true, true, true, true, true, false, false, false, false, false] rfl rfl (one_of HT_.out (by kernel_rfl)) (by decide) (fun K hK => ?_)
            refine value_ (v := .slice (some ⟨w5.heap.size, 0, none⟩) 1 1) (w1 := w5.alloc (.cells #[.int .u8 (q : Int)] 5)) (by rfl) rfl (by go_simp) ?_
            refine hK.out _ _ (boxC_cells (al_old _ _ _ _ HX5'.out)) (fun hHeld => ?_)
            clear hK K
            refine norm_ (a' := ?_) ?_ ?_
            rotate_left
            · show Act.put _ (some 34) _ = _
              simp only [Act.put, List.setIfInBounds_toArray, List.set_cons_zero, List.set_cons_succ, i64_w, i32_w]
              rfl
            refine one_ (i := 7) (N := some 35) #[true, true, true, true, true, true, true, true, false, false, false, false] rfl rfl (one_of HT_.out (by kernel_rfl)) (by decide) (fun K hK => ?_)
            refine value_ (v := .string (str [ch])) (w1 := w5.alloc (.cells #[.int .u8 (q : Int)] 5)) (by rfl) rfl (by go_simp) ?_
            refine hK.out _ _ (boxC_cells (al_old _ _ _ _ HX5'.out)) (fun hHeld => ?_)
            clear hK K
            refine norm_ (a' := ?_) ?_ ?_
            rotate_left
            · show Act.put _ (some 35) _ = _
              simp only [Act.put, List.setIfInBounds_toArray, List.set_cons_zero, List.set_cons_succ, i64_w, i32_w]
              rfl
            refine pure_ (i := 8) (N := some 36) (v := ?_) (a' := ?_) #[true, true, true, true, true, true, true, true, true, false, false, false] rfl rfl (any_of HT_.out (by kernel_rfl)) (fun _ _ _ h => h) (Or.inl ⟨by rfl, ?_⟩) ?_ ?_
            rotate_left
            · intro w'
              go_simp
              with_reducible rfl
            rotate_left
            · simp only [Act.put, List.setIfInBounds_toArray, List.set_cons_zero, List.set_cons_succ, i64_w, i32_w]
              rfl
            refine one_ (i := 9) (N := some 37) #[true, true, true, true, true, true, true, true, true, true, false, false] rfl rfl (one_of HT_.out (by kernel_rfl)) (by decide) (fun K hK => ?_)
            refine goes_ Tryd.func60 (by kernel_rfl) rfl #[counterV p b A ws.length c (.map (some bm)), .string (str (t.take i ++ [ch]))] (by rfl) rfl rfl (by (try simp only [List.map_toArray, List.map_cons, List.map_nil]); first | done | rfl) ?_
            refine (HBG.out _ (HV5'.out.trans ((Below.refl _ w5).alloc (Nat.le_refl _) _ |>.mono HV5'.out.size)) (HM5'.out.below ((Below.refl _ w5).alloc (Nat.le_refl _) _) HM5'.out.lt)).mono ?_
            rintro e w8 ⟨rfl, hm8, hg8⟩
            have HM8 := hm8
            have HG8 := Aside0.mk (grown_trans HG5'.out (grown_trans (grown_below ((Below.refl _ w5).alloc (Nat.le_refl _) _) _) hg8.out))
            have HX8 := Aside0.mk (grown_box HG8.out HX4.out hbw.out)
            clear hm8 hg8
            refine ⟨_, rfl, ?_⟩
            refine hK.out _ _ (boxC_cells HX8.out) (fun hHeld => ?_)
            clear hK K
            refine norm_ (a' := ?_) ?_ ?_
            rotate_left
            · show Act.put _ (some 37) _ = _
              simp only [Act.put, List.setIfInBounds_toArray, List.set_cons_zero, List.set_cons_succ, i64_w, i32_w]
              rfl
            refine pure_ (i := 10) (N := some 38) (v := ?_) (a' := ?_) #[true, true, true, true, true, true, true, true, true, true, true, false] rfl rfl (any_of HT_.out (by kernel_rfl)) (fun _ _ _ h => h) (Or.inl ⟨by rfl, ?_⟩) ?_ ?_
            rotate_left
            · intro w'
              go_simp
              with_reducible rfl
            rotate_left
            · simp only [Act.put, List.setIfInBounds_toArray, List.set_cons_zero, List.set_cons_succ, i64_w, i32_w]
              rfl
            refine pure_ (i := 11) (N := some 5) (v := ?_) (a' := ?_) #[true, true, true, true, true, true, true, true, true, true, true, true] rfl rfl (any_of HT_.out (by kernel_rfl)) (fun _ _ _ h => h) (Or.inl ⟨by rfl, ?_⟩) ?_ ?_
            rotate_left
            · intro w'
              go_simp
              with_reducible rfl
            rotate_left
            · simp only [Act.put, List.setIfInBounds_toArray, List.set_cons_zero, List.set_cons_succ, i64_w, i32_w]
              rfl
            refine done_ (done_of HT_.out (by kernel_rfl)) ?_
            go_wp2
            go_roundg (al.length - k)
            case measure => omega
            case rel => exact ⟨k + 1, congrArg (Value.int .i64) (by rw [HSU.out]; omega), by first | rfl | go_num, by omega, by omega, ⟨HM8.out.mono (by omega)⟩, HG8⟩
          · rw [if_neg hqm] at HLC
            rw [HLC.out, Nat.add_zero] at HSU
            have hqm2 : ((q : Int) < m) = False := by simp; omega
            clear hqm hq HLC
            go_wp2
            go_roundg (al.length - k)
            case measure => omega
            case rel => exact ⟨k + 1, by rw [HSU.out]; rfl, by first | rfl | go_num, by omega, by omega, ⟨HM5.out.mono (by omega)⟩, HG5⟩
        · obtain rfl : k = al.length := by omega
          rw [HBA.out]
          go_wp2
          go_roundg (t.length - i)
          case measure => omega
          case rel => exact ⟨i + 1, by rw [HRS.out], by first | rfl | go_num, by omega, by omega, ⟨HM5.out.mono (by omega)⟩, HX5, HGW5⟩
    · obtain rfl : i = t.length := by omega
      go_wp2
      go_ret
      exact ⟨rfl, ⟨HMW.out.mono (by omega)⟩, HGW⟩
end Go.Proofs.YtoieadofldkccaaDoor.Plates
