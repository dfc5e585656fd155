/-
  Plates: strings.Trim by a set of two signs; whether nothing is left.
-/
import Derived.Test.YtoieadofldkccaaDoorHPFits
import Derived.Lib.AsciiSet
namespace Go.Proofs.YtoieadofldkccaaDoor.Plates
open Go.RowKit Go.Proofs.YtoieadofldkccaaDoorW.PrintWords Go.Proofs.YtoieadofldkccaaDoorW.PrintLast Go.Proofs.YtoieadofldkccaaDoorW.PrintMore Go.Proofs.YtoieadofldkccaaDoor.PFnExactCountBeginning
set_option linter.unusedVariables false
set_option linter.unusedSimpArgs false

/-- a sign of a pattern -/
def LD (x : UInt8) : Bool := [76, 68].contains x
theorem ld_iff (x : UInt8) : LD x = true ↔ x = 76 ∨ x = 68 := by unfold LD; simp

/-- the set lies at block B -/
def SetAt (w : World) (B : Nat) : Prop := ∀ x : UInt8, w.cell? ⟨B, x.toNat, none⟩ = some (.bool (LD x))

set_option maxHeartbeats 1000000 in
theorem trimLeft_any (B : Nat) (t : T) (ht : t.length ≤ 4000000) (w : World) (hs : SetAt w B) :
    Calls Tryd.prog 93 #[.string (str t), .pointer (some ⟨B, 0, none⟩)] w fun e w' => (∃ m, m ≤ t.length ∧ e = .returned (.string (str (t.drop m))) ∧ (∀ j (h : j < t.length), j < m → LD t[j] = true) ∧ (∀ h : m < t.length, LD t[m] = false)) ∧ Below w.heap.size w w' := by
  have HS := Aside0.mk hs
  clear hs
  go_enter Tryd.func93, Tryd.ntmps93
  go_wp2
  go_loopg [0] (t.length + 1) (fun gg v0 wr => ∃ m : Nat, v0 = .string (str (t.drop m)) ∧ m ≤ t.length ∧ t.length - m < gg ∧ Aside0 (∀ j (h : j < t.length), j < m → LD t[j] = true) ∧ Aside0 (Below w.heap.size w wr))
  case atStart => exact ⟨0, by rw [List.drop_zero], by omega, by omega, ⟨fun j h h2 => by omega⟩, ⟨Below.refl _ w⟩⟩
  case round =>
    obtain ⟨m, rfl, m1, m2, HN, HB⟩ := hrel
    have hsz := str_size (t.drop m)
    rw [List.length_drop] at hsz
    by_cases hm : m < t.length
    · have hd : t.drop m = t[m] :: t.drop (m + 1) := List.drop_eq_getElem_cons hm
      have h0 : ((str (t.drop m))[0]'(by rw [str_size, List.length_drop]; omega)).toNat = t[m].toNat := by
        have : (str (t.drop m))[0]'(by rw [str_size, List.length_drop]; omega) = (t.drop m)[0]'(by rw [List.length_drop]; omega) := rfl
        rw [this, List.getElem_drop]; simp
      have hc := (HB.out.cell (World.block_lt_of_cell? w _ (HS.out t[m]))).trans (HS.out t[m])
      have HC := Aside0.mk (fun v (h : v = LD t[m]) => Tryd.asciiSet_contains B t[m] v wr (by rw [h]; exact hc))
      have hpos : 0 < t.length - m := by omega
      have ex : (str (t.drop m)).extract 1 (t.length - m) = str (t.drop (m + 1)) := by
        rw [extract_str, List.drop_drop, List.take_of_length_le (by rw [List.length_drop]; omega)]
      clear hc hd
      cases hq : LD t[m] with
      | true =>
        have HN2 : Aside0 (∀ j (h : j < t.length), j < m + 1 → LD t[j] = true) := ⟨fun j h h2 => by
          by_cases e : j = m
          · subst e; exact hq
          · exact HN.out j h (by omega)⟩
        have HC2 := Aside0.mk (HC.out true hq.symm)
        clear hq HC
        go_wp2_with (go_at_call 106; refine HC2.out.mono ?_; rintro e w' ⟨rfl, rfl⟩)
        go_roundg (t.length - m)
        case measure => omega
        case rel => exact ⟨m + 1, by first | rfl | rw [ex], by omega, by omega, HN2, HB⟩
      | false =>
        have HC2 := Aside0.mk (HC.out false hq.symm)
        have HQ := Aside0.mk hq
        clear hq HC
        go_wp2_with (go_at_call 106; refine HC2.out.mono ?_; rintro e w' ⟨rfl, rfl⟩)
        go_ret
        exact ⟨⟨m, m1, rfl, HN.out, fun _ => HQ.out⟩, HB.out⟩
    · obtain rfl : m = t.length := by omega
      have hz : t.length - t.length = 0 := Nat.sub_self _
      go_wp2
      go_ret
      exact ⟨⟨t.length, Nat.le_refl _, rfl, HN.out, fun h => by omega⟩, HB.out⟩

set_option maxHeartbeats 1000000 in
theorem trimRight_any (B : Nat) (t : T) (ht : t.length ≤ 4000000) (w : World) (hs : SetAt w B) :
    Calls Tryd.prog 94 #[.string (str t), .pointer (some ⟨B, 0, none⟩)] w fun e w' => (∃ m, m ≤ t.length ∧ e = .returned (.string (str (t.take m))) ∧ (∀ j (h : j < t.length), m ≤ j → LD t[j] = true) ∧ (∀ h : 0 < m ∧ m ≤ t.length, LD (t[m - 1]'(by omega)) = false)) ∧ Below w.heap.size w w' := by
  have HS := Aside0.mk hs
  clear hs
  go_enter Tryd.func94, Tryd.ntmps94
  go_wp2
  go_loopg [0] (t.length + 1) (fun gg v0 wr => ∃ m : Nat, v0 = .string (str (t.take m)) ∧ m ≤ t.length ∧ m < gg ∧ Aside0 (∀ j (h : j < t.length), m ≤ j → LD t[j] = true) ∧ Aside0 (Below w.heap.size w wr))
  case atStart => exact ⟨t.length, by rw [List.take_length], by omega, by omega, ⟨fun j h h2 => by omega⟩, ⟨Below.refl _ w⟩⟩
  case round =>
    obtain ⟨m, rfl, m1, m2, HN, HB⟩ := hrel
    have hsz := str_size (t.take m)
    rw [List.length_take, Nat.min_eq_left m1] at hsz
    have hlt : (t.take m).length = m := by rw [List.length_take]; omega
    by_cases hm : 0 < m
    · obtain ⟨i, rfl⟩ : ∃ i, m = i + 1 := ⟨m - 1, by omega⟩
      have h0 : ((str (t.take (i + 1)))[i]'(by rw [str_size, List.length_take]; omega)).toNat = t[i].toNat := by
        have : (str (t.take (i + 1)))[i]'(by rw [str_size, List.length_take]; omega) = (t.take (i + 1))[i]'(by rw [List.length_take]; omega) := rfl
        rw [this, List.getElem_take]
      have hc := (HB.out.cell (World.block_lt_of_cell? w _ (HS.out t[i]))).trans (HS.out t[i])
      have HC := Aside0.mk (fun v (h : v = LD t[i]) => Tryd.asciiSet_contains B t[i] v wr (by rw [h]; exact hc))
      have ei : ((i + 1 : Nat) : Int) - 1 = i := by omega
      have ex : (str (t.take (i + 1))).extract 0 i = str (t.take i) := by
        rw [extract_str, List.drop_zero, Nat.sub_zero, List.take_take]
        rw [Nat.min_eq_left (by omega)]
      clear hc
      cases hq : LD t[i] with
      | true =>
        have HN2 : Aside0 (∀ j (h : j < t.length), i ≤ j → LD t[j] = true) := ⟨fun j h h2 => by
          by_cases e : j = i
          · subst e; exact hq
          · exact HN.out j h (by omega)⟩
        have HC2 := Aside0.mk (HC.out true hq.symm)
        clear hq HC
        go_wp2_with (go_at_call 106; refine HC2.out.mono ?_; rintro e w' ⟨rfl, rfl⟩)
        go_roundg (i + 1)
        case measure => omega
        case rel => exact ⟨i, by first | rfl | rw [ex], by omega, by omega, HN2, HB⟩
      | false =>
        have HC2 := Aside0.mk (HC.out false hq.symm)
        have HQ := Aside0.mk hq
        clear hq HC
        go_wp2_with (go_at_call 106; refine HC2.out.mono ?_; rintro e w' ⟨rfl, rfl⟩)
        go_ret
        exact ⟨⟨i + 1, m1, rfl, HN.out, fun _ => HQ.out⟩, HB.out⟩
    · obtain rfl : m = 0 := by omega
      go_wp2
      go_ret
      exact ⟨⟨0, Nat.zero_le _, rfl, HN.out, fun h => by omega⟩, HB.out⟩

theorem zero85 (w : World) : (zeroValue 85).run Tryd.prog w = .ok (.agg (Array.replicate 256 (.bool false))) w := by kernel_rfl

set_option maxRecDepth 100000 in
set_option maxHeartbeats 2000000 in
theorem trim_any (p : T) (h1 : 1 ≤ p.length) (hp : p.length ≤ 4000000) (w : World) :
    Calls Tryd.prog 71 #[.string (str p), .string ⟨#[76, 68]⟩] w fun e w' => ∃ q : T, e = .returned (.string (str q)) ∧ (q = [] ↔ Pattern p) ∧ Below w.heap.size w w' := by
  have hsz := str_size p
  have HM := Aside0.mk (fun W => Tryd.strings_makeASCIISet zero85 ⟨#[76, 68]⟩ W (by have : (ByteArray.mk #[76, 68]).size = 2 := rfl; omega) (fun j b hb => by
    have : b ∈ [(76 : UInt8), 68] := List.mem_of_getElem? hb
    simp at this
    rcases this with rfl | rfl <;> decide))
  rw [show (ByteArray.mk #[76, 68]).data.toList = [76, 68] from rfl] at HM
  have hne : List.isEmpty p = false := by
    cases p with
    | nil => simp at h1
    | cons a p => rfl
  have hsc : (storeCells ⟨w.heap.size + 1, 0, none⟩ (Lib.setCells [76, 68]).toList 0).run Tryd.prog ((w.alloc (.cells (Lib.setCells [76, 68]) 85)).alloc (.cells Tryd.zeroCells85 85)) = .ok () ((w.alloc (.cells (Lib.setCells [76, 68]) 85)).alloc (.cells (Lib.setCells [76, 68]) 85)) := by
    have := run_storeCells_new (P := Tryd.prog) (w.alloc (.cells (Lib.setCells [76, 68]) 85)) 85 Tryd.zeroCells85 (Lib.setCells [76, 68]) (by rw [Lib.setCells_size]; kernel_rfl) (by rw [Lib.setCells_size]; kernel_rfl) (Lib.setCells_one _)
    rwa [al_size] at this
  have HSET : Aside0 (SetAt ((w.alloc (.cells (Lib.setCells [76, 68]) 85)).alloc (.cells (Lib.setCells [76, 68]) 85)) (w.heap.size + 1)) := ⟨fun x => by
    rw [Go.Joins.cell_of_block (al_new _ _ _ (al_size _ _).symm) x.toNat]
    exact Lib.setCells_at [76, 68] x⟩
  have HBL : Aside0 (Below w.heap.size w ((w.alloc (.cells (Lib.setCells [76, 68]) 85)).alloc (.cells (Lib.setCells [76, 68]) 85))) := ⟨((Below.refl _ w).alloc (Nat.le_refl _) _).alloc (by rw [al_size]; omega) _⟩
  go_enter Tryd.func71, Tryd.ntmps71
  go_wp2_with (first | (go_at_call 92; refine (HM.out _).mono ?_; rintro e w1 ⟨rfl, rfl⟩) | (go_at_call 94; refine (trimRight_any _ p hp _ HSET.out).mono ?_; rintro e w2 ⟨⟨m, hm, rfl, hall, hlast⟩, hb⟩; have HA := Aside0.mk (And.intro hall hlast); have HB2 := Aside0.mk (And.intro (HBL.out.trans (hb.mono HBL.out.size)) (fun x => (hb.cell (World.block_lt_of_cell? _ _ (HSET.out x))).trans (HSET.out x))); have HL := Aside0.mk (show (p.take m).length ≤ 4000000 by rw [List.length_take]; omega); clear hall hlast hb) | (go_at_call 93; refine (trimLeft_any _ (p.take m) HL.out _ HB2.out.2).mono ?_; rintro e w3 ⟨⟨m', hm', rfl, hall', hlast'⟩, hb⟩; have HA' := Aside0.mk (And.intro hm' (And.intro hall' hlast')); have HB3 := Aside0.mk (HB2.out.1.trans (hb.mono HB2.out.1.size)); clear hm' hall' hlast' hb))
  go_ret
  refine ⟨(p.take m).drop m', rfl, ?_, HB3.out⟩
  obtain ⟨hall, hlast⟩ := HA.out
  obtain ⟨hm', hall', hlast'⟩ := HA'.out
  have hlen : (p.take m).length = m := by rw [List.length_take]; omega
  constructor
  · intro hq
    have hmm : m' = m := by
      have := congrArg List.length hq
      rw [List.length_drop, hlen] at this
      simp at this; omega
    intro c hc
    rw [← ld_iff]
    obtain ⟨j, hj, rfl⟩ := List.mem_iff_getElem.mp hc
    by_cases h : m ≤ j
    · exact hall j hj h
    · have := hall' j (by omega) (by omega)
      rwa [List.getElem_take] at this
  · intro hp'
    apply Classical.byContradiction
    intro hq
    have hlt : m' < m := by
      apply Classical.byContradiction
      intro h
      apply hq
      exact List.drop_eq_nil_of_le (by omega)
    have h2 := hlast' (by omega)
    rw [List.getElem_take] at h2
    have := (ld_iff _).mpr (hp' _ (List.getElem_mem (show m' < p.length by omega)))
    rw [this] at h2
    exact absurd h2 (by simp)
end Go.Proofs.YtoieadofldkccaaDoor.Plates
