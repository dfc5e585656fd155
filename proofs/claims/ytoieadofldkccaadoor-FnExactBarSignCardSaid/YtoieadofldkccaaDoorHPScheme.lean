/-
  Plates: impl.IsScheme tells a scheme.
-/
import Derived.Test.YtoieadofldkccaaDoorHPTrim
namespace Go.Proofs.YtoieadofldkccaaDoor.Plates
open Go.RowKit Go.Proofs.YtoieadofldkccaaDoorW.PrintWords Go.Proofs.YtoieadofldkccaaDoorW.PrintLast Go.Proofs.YtoieadofldkccaaDoorW.PrintMore Go.Proofs.YtoieadofldkccaaDoor.PFnExactCountBeginning
set_option linter.unusedVariables false
set_option linter.unusedSimpArgs false

/-- the ways through the last line: within, nothing left, signs, number of words, no bad word -/
theorem scheme_way (p b : T) (ws : List T) (hr : Rising b) :
    (¬ (1 ≤ p.length ∧ p.length ≤ 8) ∧ goodB p b ws = false) ∨
    ((1 ≤ p.length ∧ p.length ≤ 8) ∧ ¬ Pattern p ∧ goodB p b ws = false) ∨
    ((1 ≤ p.length ∧ p.length ≤ 8) ∧ Pattern p ∧ decide (Some b 0 36) = false ∧ goodB p b ws = false) ∨
    ((1 ≤ p.length ∧ p.length ≤ 8) ∧ Pattern p ∧ decide (Some b 0 36) = true ∧ ¬ ws.length ≤ 3 ∧ goodB p b ws = false) ∨
    ((1 ≤ p.length ∧ p.length ≤ 8) ∧ Pattern p ∧ decide (Some b 0 36) = true ∧ ws.length ≤ 3 ∧ ws.any (fun x => !decide (Some x 1 4)) = true ∧ goodB p b ws = false) ∨
    ((1 ≤ p.length ∧ p.length ≤ 8) ∧ Pattern p ∧ decide (Some b 0 36) = true ∧ ws.length ≤ 3 ∧ ws.any (fun x => !decide (Some x 1 4)) = false ∧ goodB p b ws = true) := by
  by_cases h1 : 1 ≤ p.length ∧ p.length ≤ 8
  case neg => exact .inl ⟨h1, goodB_false fun g => h1 ⟨g.p1, g.p8⟩⟩
  by_cases h2 : Pattern p
  case neg => exact .inr (.inl ⟨h1, h2, goodB_false fun g => h2 g.pat⟩)
  by_cases h3 : Some b 0 36
  case neg => exact .inr (.inr (.inl ⟨h1, h2, decide_eq_false h3, goodB_false fun g => h3 ⟨⟨Nat.zero_le _, g.b36⟩, g.bs⟩⟩))
  by_cases h4 : ws.length ≤ 3
  case neg => exact .inr (.inr (.inr (.inl ⟨h1, h2, decide_eq_true h3, h4, goodB_false fun g => h4 g.w3⟩)))
  cases h5 : ws.any (fun x => !decide (Some x 1 4)) with
  | true =>
    refine .inr (.inr (.inr (.inr (.inl ⟨h1, h2, decide_eq_true h3, h4, rfl, goodB_false fun g => ?_⟩))))
    obtain ⟨x, hx, hn⟩ := List.any_eq_true.1 h5
    rw [decide_eq_true (g.ww x hx)] at hn
    simp at hn
  | false =>
    refine .inr (.inr (.inr (.inr (.inr ⟨h1, h2, decide_eq_true h3, h4, rfl, goodB_true ⟨h1.1, h1.2, h2, h3.1.2, h3.2, hr, h4, fun x hx => ?_⟩⟩))))
    have := List.any_eq_false.1 h5 x hx
    simpa using this

set_option maxRecDepth 100000 in
set_option maxHeartbeats 4000000 in
theorem isScheme_any {p b : T} {ws : List T} {A : Option Addr} {c : Nat} (hp : p.length ≤ 4000000) (hb : b.length ≤ 4000000) (hl : ws.length ≤ 4000000) (hw : ∀ x ∈ ws, x.length ≤ 4000000) (w : World) (ht : Texts w A c ws) :
    Calls Tryd.prog 51 #[.agg #[.string (str p), .string (str b), .slice A ws.length c]] w fun e w' => e = .returned (.bool (goodB p b ws)) ∧ Below w.heap.size w w' := by
  have hsb := str_size b
  have hsp := str_size p
  have HT := Aside0.mk ht
  have HW := Aside0.mk hw
  clear ht hw
  go_enter Tryd.func51, Tryd.ntmps51
  go_wp2
  go_loopg [3] (b.length + 2) (fun gg v3 wr => ∃ i : Nat, v3 = .int .i64 i ∧ 1 ≤ i ∧ b.length + 1 - i < gg ∧ i ≤ b.length + 1 ∧ Aside0 (∀ j (h : j + 1 < b.length), j + 1 < i → b[j].toNat < b[j + 1].toNat) ∧ Aside0 (wr.heap[w.heap.size]? = some (.cells #[.string (str p), .string (str b), .slice A ws.length c] 28 (0, 0))) ∧ Aside0 (Below w.heap.size w wr))
  case atStart => exact ⟨1, rfl, by omega, by omega, by omega, ⟨fun j h h2 => by omega⟩, ⟨al_new _ _ _ rfl⟩, ⟨(Below.refl _ w).alloc (Nat.le_refl _) _⟩⟩
  case round =>
    obtain ⟨i, rfl, i1, i2, i3, HN, B0, HB⟩ := hrel
    have k0 : wr.cell? ⟨w.heap.size, 0, none⟩ = some (.string (str p)) := (Go.Joins.cell_of_block B0.out 0).trans rfl
    have k1 : wr.cell? ⟨w.heap.size, 1, none⟩ = some (.string (str b)) := (Go.Joins.cell_of_block B0.out 1).trans rfl
    have k2 : wr.cell? ⟨w.heap.size, 2, none⟩ = some (.slice A ws.length c) := (Go.Joins.cell_of_block B0.out 2).trans rfl
    by_cases hi : i < b.length
    · obtain ⟨j, rfl⟩ : ∃ j, i = j + 1 := ⟨i - 1, by omega⟩
      obtain ⟨n, hn⟩ : ∃ n, n = b[j].toNat := ⟨_, rfl⟩
      obtain ⟨m, hm⟩ : ∃ m, m = b[j + 1].toNat := ⟨_, rfl⟩
      have n256 : n < 256 := by rw [hn]; exact b[j].toNat_lt
      have m256 : m < 256 := by rw [hm]; exact b[j + 1].toNat_lt
      have hbn : ((str b)[j]'(by rw [str_size]; omega)).toNat = n := hn.symm
      have hbm : ((str b)[j + 1]'(by rw [str_size]; exact hi)).toNat = m := hm.symm
      have ew : IntKind.i64.wrap (((j + 1 : Nat) : Int) - 1) = j := by rw [IntWalk.i64_in _ (by omega)]; omega
      have ewi : IntKind.i64.wrap (((j + 1 : Nat) : Int) + 1) = ((j + 2 : Nat) : Int) := by rw [IntWalk.i64_in _ (by omega)]; omega
      have HX : Aside0 (m ≤ n → goodB p b ws = false) := ⟨fun h => goodB_false fun g => by have := g.br j hi; omega⟩
      have HY : Aside0 (n < m → ∀ j' (h : j' + 1 < b.length), j' + 1 < j + 2 → b[j'].toNat < b[j' + 1].toNat) := ⟨fun g j' h h2 => by
        by_cases e : j' = j
        · subst e; omega
        · exact HN.out j' h (by omega)⟩
      clear HN hn hm
      by_cases hc : m ≤ n
      · have HX' := Aside0.mk (HX.out hc)
        have hcz : ((m : Int) ≤ n) = True := by simp; omega
        clear HX HY
        go_wp2
        go_quiet (fail)
        go_wp2
        go_ret
        exact ⟨congrArg (fun z => Ending.returned (Value.bool z)) HX'.out.symm, pw_below_drewN HB.out _⟩
      · have HY' := Aside0.mk (HY.out (by omega))
        have hcz : ((m : Int) ≤ n) = False := by simp; omega
        clear HX HY
        go_wp2
        go_quiet (fail)
        go_wp2
        go_roundg (b.length + 1 - (j + 1))
        case measure => omega
        case rel => exact ⟨j + 2, by first | rfl | rw [ewi], by omega, by omega, by omega, HY', B0, ⟨pw_below_drewN HB.out _⟩⟩
    · have HR : Aside0 (Rising b) := ⟨fun j h => HN.out j h (by omega)⟩
      have HIN := Aside0.mk (fun r W (h : impl_within.f (p.length : Int) 1 8 = some r) => impl_within.calls (p.length : Int) 1 8 r W h)
      have HTR := Aside0.mk (fun (h1 : 1 ≤ p.length) W => trim_any p h1 hp W)
      have HAR := Aside0.mk (fun W => areSigns_any b hb 0 36 W)
      have HCF := Aside0.mk (fun W (ht : Texts W A c ws) => containsFunc_any 73 #[] (fun args w => by kernel_rfl) (fun x => !decide (Some x 1 4)) ws hl A c W ht (isScheme1_tells ws HW.out W))
      have HB2 : Aside0 (w.heap.size < wr.heap.size) := ⟨World.block_lt_of_cell? wr _ k0⟩
      rcases scheme_way p b ws HR.out with ⟨h1, hg⟩ | ⟨h1, h2, hg⟩ | ⟨h1, h2, h3, hg⟩ | ⟨h1, h2, h3, h4, hg⟩ | ⟨h1, h2, h3, h4, h5, hg⟩ | ⟨h1, h2, h3, h4, h5, hg⟩
      · have HG := Aside0.mk hg
        have HI := Aside0.mk (fun W => HIN.out false W (by unfold impl_within.f; split <;> simp; omega))
        clear hg HIN h1
        go_wp2_with (go_at_call 70; refine (HI.out _).mono ?_; rintro e w' ⟨rfl, ⟨nd, rfl⟩⟩)
        go_ret
        exact ⟨congrArg (fun z => Ending.returned (Value.bool z)) HG.out.symm, pw_below_drewN HB.out _⟩
      · have HG := Aside0.mk hg
        have H2 := Aside0.mk h2
        have HT2 := Aside0.mk (HTR.out h1.1)
        have HI := Aside0.mk (fun W => HIN.out true W (by unfold impl_within.f; rw [if_pos (by omega), decide_eq_true (by omega)]))
        clear hg HIN h1 h2 HTR HCF HAR
        go_wp2_with (first | (go_at_call 70; refine (HI.out _).mono ?_; rintro e w' ⟨rfl, ⟨nd, rfl⟩⟩) | (go_at_call 71; refine (HT2.out _).mono ?_; rintro e w2 ⟨q, rfl, hq, hb2⟩; have HW2 := Aside0.mk ((pw_below_drewN (Below.refl wr.heap.size wr) nd).trans (hb2.mono (pw_below_drewN (Below.refl wr.heap.size wr) nd).size)); replace k0 := (HW2.out.cell (World.block_lt_of_cell? wr _ k0)).trans k0; replace k1 := (HW2.out.cell (World.block_lt_of_cell? wr _ k1)).trans k1; replace k2 := (HW2.out.cell (World.block_lt_of_cell? wr _ k2)).trans k2; clear hb2; obtain ⟨x, q', rfl⟩ : ∃ x q', q = x :: q' := (by cases q with | nil => exact absurd (hq.1 rfl) H2.out | cons x q' => exact ⟨x, q', rfl⟩); have hne : (str (x :: q') == ByteArray.mk #[]) = false := (by show ((x :: q').toArray == (#[] : Array UInt8)) = false; simp); clear hq))
        go_ret
        exact ⟨congrArg (fun z => Ending.returned (Value.bool z)) HG.out.symm, (HB.out.trans (HW2.out.mono (Nat.le_of_lt HB2.out)))⟩
      · have HG := Aside0.mk hg
        have H2 := Aside0.mk h2
        have HT2 := Aside0.mk (HTR.out h1.1)
        have HI := Aside0.mk (fun W => HIN.out true W (by unfold impl_within.f; rw [if_pos (by omega), decide_eq_true (by omega)]))
        have H3 := Aside0.mk h3
        clear hg HIN h1 h2 h3 HTR
        go_wp2_with (first | (go_at_call 70; refine (HI.out _).mono ?_; rintro e w' ⟨rfl, ⟨nd, rfl⟩⟩) | (go_at_call 71; refine (HT2.out _).mono ?_; rintro e w2 ⟨q, rfl, hq, hb2⟩; have HW2 := Aside0.mk ((pw_below_drewN (Below.refl wr.heap.size wr) nd).trans (hb2.mono (pw_below_drewN (Below.refl wr.heap.size wr) nd).size)); replace k0 := (HW2.out.cell (World.block_lt_of_cell? wr _ k0)).trans k0; replace k1 := (HW2.out.cell (World.block_lt_of_cell? wr _ k1)).trans k1; replace k2 := (HW2.out.cell (World.block_lt_of_cell? wr _ k2)).trans k2; clear hb2; obtain rfl := hq.2 H2.out; clear hq) | (go_at_call 52; refine (HAR.out _).mono ?_; rintro e w' ⟨rfl, ⟨nd3, rfl⟩⟩; rw [H3.out]))
        go_ret
        exact ⟨congrArg (fun z => Ending.returned (Value.bool z)) HG.out.symm, pw_below_drewN (HB.out.trans (HW2.out.mono (Nat.le_of_lt HB2.out))) _⟩
      · have HG := Aside0.mk hg
        have H2 := Aside0.mk h2
        have HT2 := Aside0.mk (HTR.out h1.1)
        have HI := Aside0.mk (fun W => HIN.out true W (by unfold impl_within.f; rw [if_pos (by omega), decide_eq_true (by omega)]))
        have H3 := Aside0.mk h3
        clear hg HIN h1 h2 h3 HTR
        go_wp2_with (first | (go_at_call 70; refine (HI.out _).mono ?_; rintro e w' ⟨rfl, ⟨nd, rfl⟩⟩) | (go_at_call 71; refine (HT2.out _).mono ?_; rintro e w2 ⟨q, rfl, hq, hb2⟩; have HW2 := Aside0.mk ((pw_below_drewN (Below.refl wr.heap.size wr) nd).trans (hb2.mono (pw_below_drewN (Below.refl wr.heap.size wr) nd).size)); replace k0 := (HW2.out.cell (World.block_lt_of_cell? wr _ k0)).trans k0; replace k1 := (HW2.out.cell (World.block_lt_of_cell? wr _ k1)).trans k1; replace k2 := (HW2.out.cell (World.block_lt_of_cell? wr _ k2)).trans k2; clear hb2; obtain rfl := hq.2 H2.out; clear hq) | (go_at_call 52; refine (HAR.out _).mono ?_; rintro e w' ⟨rfl, ⟨nd3, rfl⟩⟩; rw [H3.out]))
        go_ret
        exact ⟨congrArg (fun z => Ending.returned (Value.bool z)) HG.out.symm, pw_below_drewN (HB.out.trans (HW2.out.mono (Nat.le_of_lt HB2.out))) _⟩
      · have HG := Aside0.mk hg
        have H2 := Aside0.mk h2
        have HT2 := Aside0.mk (HTR.out h1.1)
        have HI := Aside0.mk (fun W => HIN.out true W (by unfold impl_within.f; rw [if_pos (by omega), decide_eq_true (by omega)]))
        have H3 := Aside0.mk h3
        have H5 := Aside0.mk h5
        clear hg HIN h1 h2 h3 HTR h5
        go_wp2_with (first | (go_at_call 70; refine (HI.out _).mono ?_; rintro e w' ⟨rfl, ⟨nd, rfl⟩⟩) | (go_at_call 71; refine (HT2.out _).mono ?_; rintro e w2 ⟨q, rfl, hq, hb2⟩; have HW2 := Aside0.mk ((pw_below_drewN (Below.refl wr.heap.size wr) nd).trans (hb2.mono (pw_below_drewN (Below.refl wr.heap.size wr) nd).size)); replace k0 := (HW2.out.cell (World.block_lt_of_cell? wr _ k0)).trans k0; replace k1 := (HW2.out.cell (World.block_lt_of_cell? wr _ k1)).trans k1; replace k2 := (HW2.out.cell (World.block_lt_of_cell? wr _ k2)).trans k2; clear hb2; obtain rfl := hq.2 H2.out; clear hq) | (go_at_call 52; refine (HAR.out _).mono ?_; rintro e w' ⟨rfl, ⟨nd3, rfl⟩⟩; rw [H3.out]) | (go_at_call 72; refine (HCF.out _ (texts_below HT.out (pw_below_drewN (HB.out.trans (HW2.out.mono (Nat.le_of_lt HB2.out))) _))).mono ?_; rintro e w4 ⟨rfl, hb4⟩; rw [H5.out]; have HB4 := Aside0.mk hb4; clear hb4))
        go_ret
        exact ⟨congrArg (fun z => Ending.returned (Value.bool z)) HG.out.symm, (pw_below_drewN (HB.out.trans (HW2.out.mono (Nat.le_of_lt HB2.out))) _).trans (HB4.out.mono (pw_below_drewN (HB.out.trans (HW2.out.mono (Nat.le_of_lt HB2.out))) _).size)⟩
      · have HG := Aside0.mk hg
        have H2 := Aside0.mk h2
        have HT2 := Aside0.mk (HTR.out h1.1)
        have HI := Aside0.mk (fun W => HIN.out true W (by unfold impl_within.f; rw [if_pos (by omega), decide_eq_true (by omega)]))
        have H3 := Aside0.mk h3
        have H5 := Aside0.mk h5
        clear hg HIN h1 h2 h3 HTR h5
        go_wp2_with (first | (go_at_call 70; refine (HI.out _).mono ?_; rintro e w' ⟨rfl, ⟨nd, rfl⟩⟩) | (go_at_call 71; refine (HT2.out _).mono ?_; rintro e w2 ⟨q, rfl, hq, hb2⟩; have HW2 := Aside0.mk ((pw_below_drewN (Below.refl wr.heap.size wr) nd).trans (hb2.mono (pw_below_drewN (Below.refl wr.heap.size wr) nd).size)); replace k0 := (HW2.out.cell (World.block_lt_of_cell? wr _ k0)).trans k0; replace k1 := (HW2.out.cell (World.block_lt_of_cell? wr _ k1)).trans k1; replace k2 := (HW2.out.cell (World.block_lt_of_cell? wr _ k2)).trans k2; clear hb2; obtain rfl := hq.2 H2.out; clear hq) | (go_at_call 52; refine (HAR.out _).mono ?_; rintro e w' ⟨rfl, ⟨nd3, rfl⟩⟩; rw [H3.out]) | (go_at_call 72; refine (HCF.out _ (texts_below HT.out (pw_below_drewN (HB.out.trans (HW2.out.mono (Nat.le_of_lt HB2.out))) _))).mono ?_; rintro e w4 ⟨rfl, hb4⟩; rw [H5.out]; have HB4 := Aside0.mk hb4; clear hb4))
        go_ret
        exact ⟨congrArg (fun z => Ending.returned (Value.bool z)) HG.out.symm, (pw_below_drewN (HB.out.trans (HW2.out.mono (Nat.le_of_lt HB2.out))) _).trans (HB4.out.mono (pw_below_drewN (HB.out.trans (HW2.out.mono (Nat.le_of_lt HB2.out))) _).size)⟩
end Go.Proofs.YtoieadofldkccaaDoor.Plates
