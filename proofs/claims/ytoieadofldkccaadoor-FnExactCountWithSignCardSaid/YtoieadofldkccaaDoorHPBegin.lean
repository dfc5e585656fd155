/-
  Plates: counterOf, counter.beginning.
-/
import Derived.Test.YtoieadofldkccaaDoorHPCount
namespace Go.Proofs.YtoieadofldkccaaDoor.Plates
open Go.RowKit Go.Proofs.YtoieadofldkccaaDoorW.PrintWords Go.Proofs.YtoieadofldkccaaDoorW.PrintLast Go.Proofs.YtoieadofldkccaaDoorW.PrintMore Go.Proofs.YtoieadofldkccaaDoor.PFnExactCountBeginning
open PFake (ML ml_below)
set_option linter.unusedVariables false
set_option linter.unusedSimpArgs false

set_option maxHeartbeats 2000000 in
theorem counterOf_any {p b : T} {ws : List T} {A : Option Addr} {c : Nat} (w : World) :
    Calls Tryd.prog 58 #[.agg #[.string (str p), .string (str b), .slice A ws.length c]] w fun e w' => ∃ bm, e = .returned (counterV p b A ws.length c (.map (some bm))) ∧ Aside0 (Memo p b ws w' bm 0) ∧ Aside0 (w.heap.size ≤ bm) ∧ Aside0 (Below w.heap.size w w') := by
  have hmk : ∀ W : World, (Instr.makeMap 56 none).run Tryd.prog W = .ok (.map (some W.heap.size)) (W.alloc (.map #[] 0)) := fun W => by kernel_rfl
  go_enter Tryd.func58, Tryd.ntmps58
  have hB : Aside0 (Below w.heap.size w (((w.alloc (Obj.cells #[Value.string (str p), Value.string (str b), Value.slice A ws.length c] 28)).alloc (Obj.cells #[Value.string (str p), Value.string (str b), Value.slice A ws.length c, Value.map (some (w.heap.size + 1 + 1))] 58)).alloc (.map #[] 0))) := ⟨(((Below.refl _ w).alloc (Nat.le_refl _) _).alloc (by simp) _).alloc (by simp; omega) _⟩
  go_wp2
  refine bodyPost_ret (results_cell_row rfl _ _ (w.heap.size + 1) 58 #[.string (str p), .string (str b), .slice A ws.length c, .map (some (w.heap.size + 1 + 1))] (0, 0) _ rfl (al_old _ _ _ _ (al_new _ _ _ (al_size _ _).symm)) Tryd.underlying58 rfl (by kernel_rfl)) rfl ?_
  refine ⟨w.heap.size + 1 + 1, rfl, ⟨?_⟩, ⟨by omega⟩, hB⟩
  have := memo_new p b ws ((w.alloc (Obj.cells #[Value.string (str p), Value.string (str b), Value.slice A ws.length c] 28)).alloc (Obj.cells #[Value.string (str p), Value.string (str b), Value.slice A ws.length c, Value.map (some (w.heap.size + 1 + 1))] 58))
  rwa [al_size, al_size] at this

def beginning.T6 : Bool × List (List Nat × List Nat) := (true, [([], []), ([0], [0]), ([], []), ([1, 2], [1, 2]), ([], []), ([], []), ([4, 5], [4, 5]), ([3, 6, 3], [3, 6]), ([7], [7])])
def beginning.B6 : List Nat := [0, 1, 0, 7, 0, 0, 48, 127, 255]
theorem beginning.tab6 : rtab .any (opsOf Tryd.f60 6) = beginning.T6 := by kernel_rfl
theorem beginning.bits6 : waitsOk beginning.T6.2 beginning.B6 = true := by kernel_rfl

theorem fromN_yes {p b : T} {ws : List T} {t : T} (h : Fits p b t) (h2 : Clean ws t) : fromN p b ws t = cnt b ws (p.drop t.length) t := by unfold fromN; rw [if_pos ⟨h, h2⟩]
theorem fromN_no {p b : T} {ws : List T} {t : T} (h : ¬ (Fits p b t ∧ Clean ws t)) : fromN p b ws t = 0 := by unfold fromN; rw [if_neg h]

/-- slices.Contains of bytes -/
theorem contains_any (l : T) (x : UInt8) (m : Nat) (hm : x.toNat = m) (hl : l.length ≤ 4000000) (A : Option Addr) (c : Nat) (w : World) (h : Kd.C (Kd.int .u8) w A l.length (nums l)) (hc : l.length ≤ c) :
    Calls Tryd.prog 88 #[.slice A l.length c, .int .u8 m] w fun e w' => e = .returned (.bool (decide (x ∈ l))) ∧ Drawn0 w w' := by
  have h2 := slices_Contains_byte_byte.calls (l.length + 1) A c (nums l) x.toNat _ w (by rw [List.length_map]; exact h) (by rw [List.length_map]; exact hc) (contains_eq l x hl (l.length + 1) (by omega))
  rw [List.length_map, hm] at h2
  exact h2

/-- what a call of beginning leaves -/
def BegPost (p b : T) (ws : List T) (bm n : Nat) (v : Nat) (w : World) (e : Ending) (w' : World) : Prop :=
  e = .returned (.int .i64 (v : Nat)) ∧ Aside0 (Memo p b ws w' bm (n + 282429536481)) ∧ Aside0 (w.grownBy w' (some bm))

set_option maxRecDepth 100000 in
set_option maxHeartbeats 8000000 in
theorem beginning_any {p b : T} {ws : List T} (G : Good p b ws) {A : Option Addr} {c : Nat} (w0 : World) (hT0 : Texts w0 A c ws) (hM0 : ML w0) (bm : Nat) (hbm : w0.heap.size ≤ bm) (t : T) (ht : t.length ≤ 4000000) (n : Nat) (hn : n + 282429536481 ≤ 1000000000000000000) (w : World) (HB : Below w0.heap.size w0 w) (HM : Memo p b ws w bm n) :
    Calls Tryd.prog 60 #[counterV p b A ws.length c (.map (some bm)), .string (str t)] w (BegPost p b ws bm n (fromN p b ws t) w) := by
  have hsp := str_size p
  have hsz := str_size t
  have p8 := G.p8
  have hl := G.w3
  have hw1 : Aside0 (Below w.heap.size w (w.alloc (.cells #[.string (str p), .string (str b), .slice A ws.length c, .map (some bm)] 58))) := ⟨(Below.refl _ w).alloc (Nat.le_refl _) _⟩
  have hx1 : Aside0 ((w.alloc (.cells #[.string (str p), .string (str b), .slice A ws.length c, .map (some bm)] 58)).heap[w.heap.size]? = some (.cells #[.string (str p), .string (str b), .slice A ws.length c, .map (some bm)] 58 (0, 0))) := ⟨al_new _ _ _ rfl⟩
  have HWI := Aside0.mk (fun W (h : Texts W A c ws) (hml : ML W) => wordsIn_any (p := p) (b := b) t ht (by omega) W h hml)
  have HB0 := Aside0.mk HB
  have HMM := Aside0.mk HM
  have HT0 := Aside0.mk hT0
  have HM0 := Aside0.mk hM0
  have HG := Aside0.mk G
  clear HB HM hT0 hM0 G
  by_cases hlen : t.length ≤ p.length
  case neg =>
    have HV : Aside0 (fromN p b ws t = 0) := ⟨fromN_no (fun h => hlen h.1.1)⟩
    go_enter Tryd.func60, Tryd.ntmps60
    go_wp2
    go_ret
    exact ⟨congrArg (fun z : Nat => Ending.returned (Value.int .i64 (z : Int))) HV.out.symm, ⟨(HMM.out.below hw1.out HMM.out.lt).mono (by omega)⟩, ⟨grown_below hw1.out _⟩⟩
  by_cases hcl : Clean ws t
  case neg =>
    have HV : Aside0 (fromN p b ws t = 0) := ⟨fromN_no (fun h => hcl h.2)⟩
    have HC2 := Aside0.mk hcl
    clear hcl
    go_enter Tryd.func60, Tryd.ntmps60
    go_wp2_with (go_at_call 87; refine (HWI.out _ (texts_below HT0.out (HB0.out.trans (hw1.out.mono HB0.out.size))) (ml_below HM0.out (HB0.out.trans (hw1.out.mono HB0.out.size)))).mono ?_; rintro e w6 ⟨A6, n6, c6, rfl, hn6, hb6⟩; obtain ⟨n7, rfl⟩ : ∃ n7, n6 = n7 + 1 := ⟨n6 - 1, by have : n6 ≠ 0 := fun h => HC2.out (hn6.1 h); omega⟩; have HB6 := Aside0.mk (hw1.out.trans (hb6.mono hw1.out.size)); clear hb6 hn6)
    go_ret
    exact ⟨congrArg (fun z : Nat => Ending.returned (Value.int .i64 (z : Int))) HV.out.symm, ⟨(HMM.out.below HB6.out HMM.out.lt).mono (by omega)⟩, ⟨grown_below HB6.out _⟩⟩
  have HC2 := Aside0.mk hcl
  clear hcl
  go_enter Tryd.func60, Tryd.ntmps60
  go_wp2_with (go_at_call 87; refine (HWI.out _ (texts_below HT0.out (HB0.out.trans (hw1.out.mono HB0.out.size))) (ml_below HM0.out (HB0.out.trans (hw1.out.mono HB0.out.size)))).mono ?_; rintro e w6 ⟨A6, n6, c6, rfl, hn6, hb6⟩; obtain rfl := hn6.2 HC2.out; have HB6 := Aside0.mk (hw1.out.trans (hb6.mono hw1.out.size)); have HX6 := Aside0.mk ((hb6.block w.heap.size (by rw [al_size]; omega)).trans hx1.out); clear hb6 hn6)
  go_loopg [23] (t.length + 1) (fun gg v23 wr => ∃ i : Nat, v23 = .int .i64 i ∧ i ≤ t.length ∧ t.length - i < gg ∧ Aside0 (∀ j (h : j < t.length) (h2 : j < p.length), j < i → t[j] ∈ allowedL b p[j]) ∧ Aside0 (wr.heap[w.heap.size]? = some (.cells #[.string (str p), .string (str b), .slice A ws.length c, .map (some bm)] 58 (0, 0))) ∧ Aside0 (Below w.heap.size w wr))
  case atStart => exact ⟨0, rfl, by omega, by omega, ⟨fun j h h2 h3 => by omega⟩, HX6, HB6⟩
  case round =>
    obtain ⟨i, rfl, i1, i2, HN, HX, HBW⟩ := hrel
    by_cases hi : i < t.length
    · have hip : i < p.length := by omega
      obtain ⟨m, hm⟩ : ∃ m, t[i].toNat = m := ⟨_, rfl⟩
      have m256 : m < 256 := by rw [← hm]; exact t[i].toNat_lt
      have hbt : ((str t)[i]'(by rw [str_size]; exact hi)).toNat = m := hm
      have HAL := Aside0.mk (fun W (h : Texts W A c ws) => allowed_any (b := b) i hip W h)
      have hal := allowed_length b p[i]
      have HIN : Aside0 (t[i] ∈ allowedL b p[i] → ∀ j (h : j < t.length) (h2 : j < p.length), j < i + 1 → t[j] ∈ allowedL b p[j]) := ⟨fun g j h h2 h3 => by
        by_cases e : j = i
        · subst e; exact g
        · exact HN.out j h h2 (by omega)⟩
      have HOUT : Aside0 (t[i] ∉ allowedL b p[i] → fromN p b ws t = 0) := ⟨fun g => fromN_no (fun h => g (h.1.2 i hi hip))⟩
      have HCO := Aside0.mk (contains_any (allowedL b p[i]) t[i] m hm (by omega))
      clear HN hm
      generalize allowedL b p[i] = al at HAL hal HIN HOUT HCO
      generalize t[i] = ch at HIN HOUT HCO
      have HB5 := Aside0.mk (below_drew1 HBW.out)
      have HX5 : Aside0 (wr.drew.heap[w.heap.size]? = some (.cells #[.string (str p), .string (str b), .slice A ws.length c, .map (some bm)] 58 (0, 0))) := ⟨HX.out⟩
      have e8 : IntKind.i64.wrap ((i : Int) + 1) = i + 1 := IntWalk.i64_in _ (by omega)
      by_cases hc : ch ∈ al
      · rw [decide_eq_true hc] at HCO
        have HIN2 := Aside0.mk (HIN.out hc)
        clear hc HIN HOUT
        go_wp2
        refine start_ (n := 9) (S := fun w' => w'.cell? ⟨w.heap.size, 0, none⟩ = some (.string (str p)) ∧ w'.cell? ⟨w.heap.size, 1, none⟩ = some (.string (str b)) ∧ w'.cell? ⟨w.heap.size, 2, none⟩ = some (.slice A ws.length c)) (ds := []) #[false, false, false, false, false, false, false, false, false] (by kernel_rfl) rfl rfl ⟨(Go.Joins.cell_of_block HX5.out 0).trans rfl, (Go.Joins.cell_of_block HX5.out 1).trans rfl, (Go.Joins.cell_of_block HX5.out 2).trans rfl⟩ (fun hHeld => ?_); refine with_tabW beginning.tab6 beginning.bits6 (fun HT_ HW_ => ?_)
        generalize wr.drew = w5 at HB5 HX5 hHeld ⊢
        refine pure_ (i := 0) (N := some 26) (v := ?_) (a' := ?_) #[true, false, false, false, false, false, false, false, false] rfl rfl (any_of HT_.out (by kernel_rfl)) (fun _ _ _ h => h) (Or.inl ⟨by rfl, ?_⟩) ?_ ?_
        rotate_left
        · intro w'
          go_simp
          with_reducible rfl
        rotate_left
        · simp only [Act.put, List.setIfInBounds_toArray, List.set_cons_zero, List.set_cons_succ, i64_w, i32_w]
          rfl
        refine pure_ (i := 2) (N := some 28) (v := ?_) (a' := ?_) #[true, false, true, false, false, false, false, false, false] rfl rfl (any_of HT_.out (by kernel_rfl)) (fun _ _ _ h => h) (Or.inl ⟨by rfl, ?_⟩) ?_ ?_
        rotate_left
        · intro w'
          go_simp
          with_reducible rfl
        rotate_left
        · simp only [Act.put, List.setIfInBounds_toArray, List.set_cons_zero, List.set_cons_succ, i64_w, i32_w]
          rfl
        refine pure_ (i := 4) (N := some 30) (v := ?_) (a' := ?_) #[true, false, true, false, true, false, false, false, false] rfl rfl (any_of HT_.out (by kernel_rfl)) (fun _ _ _ h => h) (Or.inl ⟨by rfl, ?_⟩) ?_ ?_
        rotate_left
        · intro w'
          go_simp
          with_reducible rfl
        rotate_left
        · simp only [Act.put, List.setIfInBounds_toArray, List.set_cons_zero, List.set_cons_succ, i64_w, i32_w]
          rfl
        refine pure_ (i := 5) (N := some 31) (v := ?_) (a' := ?_) #[true, false, true, false, true, true, false, false, false] rfl rfl (any_of HT_.out (by kernel_rfl)) (fun _ _ _ h => h) (Or.inl ⟨by rfl, ?_⟩) ?_ ?_
        rotate_left
        · intro w'
          go_simp
          with_reducible rfl
        rotate_left
        · simp only [Act.put, List.setIfInBounds_toArray, List.set_cons_zero, List.set_cons_succ, i64_w, i32_w]
          rfl
        refine pure_ (i := 6) (N := some 32) (v := ?_) (a' := ?_) #[true, false, true, false, true, true, true, false, false] rfl rfl (any_of HT_.out (by kernel_rfl)) (fun _ _ _ h => h) (Or.inl ⟨by rfl, ?_⟩) ?_ ?_
        rotate_left
        · intro w'
          go_simp
          with_reducible rfl
        rotate_left
        · simp only [Act.put, List.setIfInBounds_toArray, List.set_cons_zero, List.set_cons_succ, i64_w, i32_w]
          rfl
        refine take_ (i := 1) (N := some 27) (v := ?_) (a' := ?_) #[true, true, true, false, true, true, true, false, false] rfl rfl (take_ofW HT_.out HW_.out (by kernel_rfl)) (fun _ _ _ h => h) (Or.inl ⟨by rfl, ?_⟩) hHeld ?_ ?_
        rotate_left
        · rintro w' ⟨s0, s1, s2⟩
          go_simp
          with_reducible rfl
        rotate_left
        · simp only [Act.put, List.setIfInBounds_toArray, List.set_cons_zero, List.set_cons_succ, i64_w, i32_w]
          rfl
        refine one_ (i := 3) (N := some 29) #[true, true, true, true, true, true, true, false, false] rfl rfl (one_of HT_.out (by kernel_rfl)) (by decide) (fun K hK => ?_)
        refine goes_ Tryd.func86 (by kernel_rfl) rfl #[.agg #[.string (str p), .string (str b), .slice A ws.length c], .int .i64 i] (by rfl) rfl rfl (by (try simp only [List.map_toArray, List.map_cons, List.map_nil]); first | done | rfl) ?_
        refine (HAL.out _ (texts_below HT0.out (HB0.out.trans (HB5.out.mono HB0.out.size)))).mono ?_
        rintro e w6 ⟨A6, c6, rfl, hr6, hb6⟩
        have HR6 := hr6
        have HB6 := Aside0.mk (HB5.out.trans (hb6.out.mono HB5.out.size))
        have HX6 := Aside0.mk ((hb6.out.block w.heap.size (Array.getElem?_eq_some_iff.1 HX5.out).1).trans HX5.out)
        refine ⟨_, rfl, ?_⟩
        refine hK.out _ _ ⟨(Go.Joins.cell_of_block HX6.out 0).trans rfl, (Go.Joins.cell_of_block HX6.out 1).trans rfl, (Go.Joins.cell_of_block HX6.out 2).trans rfl⟩ (fun hHeld => ?_)
        clear hK K
        refine norm_ (a' := ?_) ?_ ?_
        rotate_left
        · show Act.put _ (some 29) _ = _
          simp only [Act.put, List.setIfInBounds_toArray, List.set_cons_zero, List.set_cons_succ, i64_w, i32_w]
          rfl
        refine one_ (i := 7) (N := some 33) #[true, true, true, true, true, true, true, true, false] rfl rfl (one_of HT_.out (by kernel_rfl)) (by decide) (fun K hK => ?_)
        refine goes_ Tryd.func88 (by kernel_rfl) rfl #[.slice A6 al.length c6, .int .u8 m] (by rfl) rfl rfl (by (try simp only [List.map_toArray, List.map_cons, List.map_nil]); first | done | rfl) ?_
        refine (HCO.out _ _ _ HR6.out.2 HR6.out.1).mono ?_
        rintro e w' ⟨rfl, ⟨nd, rfl⟩⟩
        have HB7 := Aside0.mk (pw_below_drewN HB6.out nd)
        have HX7 : Aside0 ((World.drewN w6 nd).heap[w.heap.size]? = some (.cells #[.string (str p), .string (str b), .slice A ws.length c, .map (some bm)] 58 (0, 0))) := ⟨((pw_below_drewN (Below.refl w6.heap.size w6) nd).block _ (Array.getElem?_eq_some_iff.1 HX6.out).1).trans HX6.out⟩
        generalize World.drewN w6 nd = w7 at HB7 HX7 ⊢
        refine ⟨_, rfl, ?_⟩
        refine hK.out _ _ ⟨(Go.Joins.cell_of_block HX7.out 0).trans rfl, (Go.Joins.cell_of_block HX7.out 1).trans rfl, (Go.Joins.cell_of_block HX7.out 2).trans rfl⟩ (fun hHeld => ?_)
        clear hK K
        refine norm_ (a' := ?_) ?_ ?_
        rotate_left
        · show Act.put _ (some 33) _ = _
          simp only [Act.put, List.setIfInBounds_toArray, List.set_cons_zero, List.set_cons_succ, i64_w, i32_w]
          rfl
        refine pure_ (i := 8) (N := some 34) (v := ?_) (a' := ?_) #[true, true, true, true, true, true, true, true, true] rfl rfl (any_of HT_.out (by kernel_rfl)) (fun _ _ _ h => h) (Or.inl ⟨by rfl, ?_⟩) ?_ ?_
        rotate_left
        · intro w'
          go_simp
          with_reducible rfl
        rotate_left
        · simp only [Act.put, List.setIfInBounds_toArray, List.set_cons_zero, List.set_cons_succ, i64_w, i32_w]
          rfl
        refine done_ (done_of HT_.out (by kernel_rfl)) ?_
        go_wp2
        go_roundg (t.length - i)
        case measure => omega
        case rel => exact ⟨i + 1, by first | rfl | go_num, by omega, by omega, HIN2, HX7, HB7⟩
      · rw [decide_eq_false hc] at HCO
        have HV := Aside0.mk (HOUT.out hc)
        clear hc HIN HOUT
        go_wp2
        refine start_ (n := 9) (S := fun w' => w'.cell? ⟨w.heap.size, 0, none⟩ = some (.string (str p)) ∧ w'.cell? ⟨w.heap.size, 1, none⟩ = some (.string (str b)) ∧ w'.cell? ⟨w.heap.size, 2, none⟩ = some (.slice A ws.length c)) (ds := []) #[false, false, false, false, false, false, false, false, false] (by kernel_rfl) rfl rfl ⟨(Go.Joins.cell_of_block HX5.out 0).trans rfl, (Go.Joins.cell_of_block HX5.out 1).trans rfl, (Go.Joins.cell_of_block HX5.out 2).trans rfl⟩ (fun hHeld => ?_); refine with_tabW beginning.tab6 beginning.bits6 (fun HT_ HW_ => ?_)
        generalize wr.drew = w5 at HB5 HX5 hHeld ⊢
        refine pure_ (i := 0) (N := some 26) (v := ?_) (a' := ?_) #[true, false, false, false, false, false, false, false, false] rfl rfl (any_of HT_.out (by kernel_rfl)) (fun _ _ _ h => h) (Or.inl ⟨by rfl, ?_⟩) ?_ ?_
        rotate_left
        · intro w'
          go_simp
          with_reducible rfl
        rotate_left
        · simp only [Act.put, List.setIfInBounds_toArray, List.set_cons_zero, List.set_cons_succ, i64_w, i32_w]
          rfl
        refine pure_ (i := 2) (N := some 28) (v := ?_) (a' := ?_) #[true, false, true, false, false, false, false, false, false] rfl rfl (any_of HT_.out (by kernel_rfl)) (fun _ _ _ h => h) (Or.inl ⟨by rfl, ?_⟩) ?_ ?_
        rotate_left
        · intro w'
          go_simp
          with_reducible rfl
        rotate_left
        · simp only [Act.put, List.setIfInBounds_toArray, List.set_cons_zero, List.set_cons_succ, i64_w, i32_w]
          rfl
        refine pure_ (i := 4) (N := some 30) (v := ?_) (a' := ?_) #[true, false, true, false, true, false, false, false, false] rfl rfl (any_of HT_.out (by kernel_rfl)) (fun _ _ _ h => h) (Or.inl ⟨by rfl, ?_⟩) ?_ ?_
        rotate_left
        · intro w'
          go_simp
          with_reducible rfl
        rotate_left
        · simp only [Act.put, List.setIfInBounds_toArray, List.set_cons_zero, List.set_cons_succ, i64_w, i32_w]
          rfl
        refine pure_ (i := 5) (N := some 31) (v := ?_) (a' := ?_) #[true, false, true, false, true, true, false, false, false] rfl rfl (any_of HT_.out (by kernel_rfl)) (fun _ _ _ h => h) (Or.inl ⟨by rfl, ?_⟩) ?_ ?_
        rotate_left
        · intro w'
          go_simp
          with_reducible rfl
        rotate_left
        · simp only [Act.put, List.setIfInBounds_toArray, List.set_cons_zero, List.set_cons_succ, i64_w, i32_w]
          rfl
        refine pure_ (i := 6) (N := some 32) (v := ?_) (a' := ?_) #[true, false, true, false, true, true, true, false, false] rfl rfl (any_of HT_.out (by kernel_rfl)) (fun _ _ _ h => h) (Or.inl ⟨by rfl, ?_⟩) ?_ ?_
        rotate_left
        · intro w'
          go_simp
          with_reducible rfl
        rotate_left
        · simp only [Act.put, List.setIfInBounds_toArray, List.set_cons_zero, List.set_cons_succ, i64_w, i32_w]
          rfl
        refine take_ (i := 1) (N := some 27) (v := ?_) (a' := ?_) #[true, true, true, false, true, true, true, false, false] rfl rfl (take_ofW HT_.out HW_.out (by kernel_rfl)) (fun _ _ _ h => h) (Or.inl ⟨by rfl, ?_⟩) hHeld ?_ ?_
        rotate_left
        · rintro w' ⟨s0, s1, s2⟩
          go_simp
          with_reducible rfl
        rotate_left
        · simp only [Act.put, List.setIfInBounds_toArray, List.set_cons_zero, List.set_cons_succ, i64_w, i32_w]
          rfl
        refine one_ (i := 3) (N := some 29) #[true, true, true, true, true, true, true, false, false] rfl rfl (one_of HT_.out (by kernel_rfl)) (by decide) (fun K hK => ?_)
        refine goes_ Tryd.func86 (by kernel_rfl) rfl #[.agg #[.string (str p), .string (str b), .slice A ws.length c], .int .i64 i] (by rfl) rfl rfl (by (try simp only [List.map_toArray, List.map_cons, List.map_nil]); first | done | rfl) ?_
        refine (HAL.out _ (texts_below HT0.out (HB0.out.trans (HB5.out.mono HB0.out.size)))).mono ?_
        rintro e w6 ⟨A6, c6, rfl, hr6, hb6⟩
        have HR6 := hr6
        have HB6 := Aside0.mk (HB5.out.trans (hb6.out.mono HB5.out.size))
        have HX6 := Aside0.mk ((hb6.out.block w.heap.size (Array.getElem?_eq_some_iff.1 HX5.out).1).trans HX5.out)
        refine ⟨_, rfl, ?_⟩
        refine hK.out _ _ ⟨(Go.Joins.cell_of_block HX6.out 0).trans rfl, (Go.Joins.cell_of_block HX6.out 1).trans rfl, (Go.Joins.cell_of_block HX6.out 2).trans rfl⟩ (fun hHeld => ?_)
        clear hK K
        refine norm_ (a' := ?_) ?_ ?_
        rotate_left
        · show Act.put _ (some 29) _ = _
          simp only [Act.put, List.setIfInBounds_toArray, List.set_cons_zero, List.set_cons_succ, i64_w, i32_w]
          rfl
        refine one_ (i := 7) (N := some 33) #[true, true, true, true, true, true, true, true, false] rfl rfl (one_of HT_.out (by kernel_rfl)) (by decide) (fun K hK => ?_)
        refine goes_ Tryd.func88 (by kernel_rfl) rfl #[.slice A6 al.length c6, .int .u8 m] (by rfl) rfl rfl (by (try simp only [List.map_toArray, List.map_cons, List.map_nil]); first | done | rfl) ?_
        refine (HCO.out _ _ _ HR6.out.2 HR6.out.1).mono ?_
        rintro e w' ⟨rfl, ⟨nd, rfl⟩⟩
        have HB7 := Aside0.mk (pw_below_drewN HB6.out nd)
        have HX7 : Aside0 ((World.drewN w6 nd).heap[w.heap.size]? = some (.cells #[.string (str p), .string (str b), .slice A ws.length c, .map (some bm)] 58 (0, 0))) := ⟨((pw_below_drewN (Below.refl w6.heap.size w6) nd).block _ (Array.getElem?_eq_some_iff.1 HX6.out).1).trans HX6.out⟩
        generalize World.drewN w6 nd = w7 at HB7 HX7 ⊢
        refine ⟨_, rfl, ?_⟩
        refine hK.out _ _ ⟨(Go.Joins.cell_of_block HX7.out 0).trans rfl, (Go.Joins.cell_of_block HX7.out 1).trans rfl, (Go.Joins.cell_of_block HX7.out 2).trans rfl⟩ (fun hHeld => ?_)
        clear hK K
        refine norm_ (a' := ?_) ?_ ?_
        rotate_left
        · show Act.put _ (some 33) _ = _
          simp only [Act.put, List.setIfInBounds_toArray, List.set_cons_zero, List.set_cons_succ, i64_w, i32_w]
          rfl
        refine pure_ (i := 8) (N := some 34) (v := ?_) (a' := ?_) #[true, true, true, true, true, true, true, true, true] rfl rfl (any_of HT_.out (by kernel_rfl)) (fun _ _ _ h => h) (Or.inl ⟨by rfl, ?_⟩) ?_ ?_
        rotate_left
        · intro w'
          go_simp
          with_reducible rfl
        rotate_left
        · simp only [Act.put, List.setIfInBounds_toArray, List.set_cons_zero, List.set_cons_succ, i64_w, i32_w]
          rfl
        refine done_ (done_of HT_.out (by kernel_rfl)) ?_
        go_wp2
        go_ret
        exact ⟨congrArg (fun z : Nat => Ending.returned (Value.int .i64 (z : Int))) HV.out.symm, ⟨(HMM.out.below HB7.out HMM.out.lt).mono (by omega)⟩, ⟨grown_below HB7.out _⟩⟩
    · obtain rfl : i = t.length := by omega
      have HV : Aside0 (fromN p b ws t = cnt b ws (p.drop t.length) t) := ⟨fromN_yes ⟨hlen, fun j h h2 => HN.out j h h2 h⟩ HC2.out⟩
      have HP : Aside0 (27 ^ (p.length - t.length) ≤ 282429536481) := ⟨Nat.le_trans (Nat.pow_le_pow_right (by omega) (show p.length - t.length ≤ 8 by omega)) (by decide)⟩
      have HFR := Aside0.mk (from_any HG.out w0 HT0.out HM0.out bm hbm (p.length - t.length) t.length (by omega) t (by omega) HC2.out n wr (by have := HP.out; omega) (HB0.out.trans (HBW.out.mono HB0.out.size)) (HMM.out.below HBW.out HMM.out.lt))
      rw [← HV.out] at HFR
      have k0 := (Go.Joins.cell_of_block HX.out 0)
      have k1 := (Go.Joins.cell_of_block HX.out 1)
      have k2 := (Go.Joins.cell_of_block HX.out 2)
      have k3 := (Go.Joins.cell_of_block HX.out 3)
      simp only [List.getElem?_toArray, List.getElem?_cons_zero, List.getElem?_cons_succ] at k0 k1 k2 k3
      go_wp2_with (go_at_call 59; refine HFR.out.mono ?_; rintro e w8 ⟨rfl, hm8, hg8⟩)
      go_ret
      exact ⟨rfl, ⟨hm8.out.mono (by have := HP.out; omega)⟩, ⟨grown_trans (grown_below HBW.out _) hg8.out⟩⟩
end Go.Proofs.YtoieadofldkccaaDoor.Plates
