/-
  Plates: slices.ContainsFunc over texts for whatever function, the two functions that are handed to it, the signs allowed at a place.
-/
import Derived.Test.YtoieadofldkccaaDoorHPStates
import Derived.Test.YtoieadofldkccaaDoorShelf
import Derived.Shelf.Abstract
import Derived.Deep.LoopGhost
namespace Go.Proofs.YtoieadofldkccaaDoor.Plates
open Go.RowKit Go.Proofs.YtoieadofldkccaaDoorW.PrintWords Go.Proofs.YtoieadofldkccaaDoorW.PrintLast Go.Proofs.YtoieadofldkccaaDoorW.PrintMore Go.Proofs.YtoieadofldkccaaDoor.PFnExactCountBeginning
set_option linter.unusedVariables false
set_option linter.unusedSimpArgs false

/-- a slice of texts -/
abbrev Texts (w : World) (A : Option Addr) (c : Nat) (ws : List T) : Prop := Kd.C Kd.string w A (ws.map str).length (ws.map str) ∧ (ws.map str).length ≤ c

theorem texts_below {w W : World} {A : Option Addr} {c : Nat} {ws : List T} (h : Texts w A c ws) (hb : Below w.heap.size w W) : Texts W A c ws := ⟨Kd.C_below h.1 hb, h.2⟩

theorem text_at {w : World} {A : Option Addr} {c : Nat} {ws : List T} (h : Texts w A c ws) (i : Nat) (hi : i < ws.length) : ∃ ad, A = some ad ∧ w.cell? ((ad.add i)) = some (.string (str ws[i])) := by
  obtain ⟨ad, e, hx⟩ := Kd.at_string h.1 (i : Int) (by omega) (by rw [List.length_map]; omega)
  refine ⟨ad, e, ?_⟩
  rw [rdOf_map ws i hi] at hx
  simpa using hx

/-- the function, handed in, tells pr of each text of the list, in whatever later world -/
def TellsS (g : Nat) (lb : Array Value) (pr : T → Bool) (ws : List T) (w : World) : Prop :=
  ∀ (W : World) (x : T), Below w.heap.size w W → x ∈ ws → Calls Tryd.prog g (#[.string (str x)] ++ lb) W fun e w' => e = .returned (.bool (pr x)) ∧ Below w.heap.size w w'

set_option maxHeartbeats 1000000 in
theorem indexFunc_any (g : Nat) (lb : Array Value) (eg : ∀ args w, (callFunc g args).run Tryd.prog w = .ok (.enter g args) w) (pr : T → Bool) (ws : List T) (hl : ws.length ≤ 4000000) (A : Option Addr) (c : Nat) (w : World) (ht : Texts w A c ws) (hp : TellsS g lb pr ws w) :
    Calls Tryd.prog 97 #[.slice A ws.length c, .func (.func g) #[] lb] w fun e w' => ∃ v : Int, e = .returned (.int .i64 v) ∧ (0 ≤ v ↔ ws.any pr = true) ∧ Below w.heap.size w w' := by
  have HT := Aside0.mk ht
  have HP := Aside0.mk hp
  clear ht hp
  go_enter Tryd.func97, Tryd.ntmps97
  go_wp2
  go_loopg [8] (ws.length + 1) (fun gg v8 wr => ∃ i : Nat, v8 = .int .i64 i ∧ i ≤ ws.length ∧ ws.length - i < gg ∧ Aside0 ((ws.take i).any pr = false) ∧ Aside0 (Below w.heap.size w wr))
  case atStart => exact ⟨0, rfl, by omega, by omega, ⟨rfl⟩, ⟨Below.refl _ w⟩⟩
  case round =>
    obtain ⟨i, rfl, i1, i2, HN, HB⟩ := hrel
    by_cases hi : i < ws.length
    · obtain ⟨ad, e1, hx⟩ := text_at HT.out i hi
      subst e1
      replace hx := (HB.out.cell (World.block_lt_of_cell? w _ hx)).trans hx
      have HC := Aside0.mk (HP.out wr ws[i] HB.out (List.getElem_mem hi))
      have HS : Aside0 ((ws.take (i + 1)).any pr = pr ws[i]) := ⟨by rw [List.take_succ_eq_append_getElem hi, List.any_append, HN.out]; simp⟩
      have HA : Aside0 (pr ws[i] = true → ws.any pr = true) := ⟨fun h => List.any_eq_true.2 ⟨_, List.getElem_mem hi, h⟩⟩
      cases hq : pr ws[i] with
      | true =>
        rw [hq] at HC HS
        have HA' := Aside0.mk (HA.out hq)
        clear hq HA HN
        go_wp2_with (go_at_fn g; refine HC.out.mono ?_; rintro e w' ⟨rfl, hb'⟩)
        go_ret
        exact ⟨i, rfl, by rw [HA'.out]; simp, hb'⟩
      | false =>
        rw [hq] at HC HS
        clear hq HA HN
        go_wp2_with (go_at_fn g; refine HC.out.mono ?_; rintro e w' ⟨rfl, hb'⟩)
        go_roundg (ws.length - i)
        case measure => omega
        case rel => exact ⟨i + 1, by first | rfl | go_num, by omega, by omega, HS, ⟨hb'⟩⟩
    · obtain rfl : i = ws.length := by omega
      go_wp2
      go_ret
      refine ⟨-1, rfl, ?_, HB.out⟩
      have := HN.out
      rw [List.take_length] at this
      rw [this]; simp

theorem containsFunc_any (g : Nat) (lb : Array Value) (eg : ∀ args w, (callFunc g args).run Tryd.prog w = .ok (.enter g args) w) (pr : T → Bool) (ws : List T) (hl : ws.length ≤ 4000000) (A : Option Addr) (c : Nat) (w : World) (ht : Texts w A c ws) (hp : TellsS g lb pr ws w) :
    Calls Tryd.prog 72 #[.slice A ws.length c, .func (.func g) #[] lb] w fun e w' => e = .returned (.bool (ws.any pr)) ∧ Below w.heap.size w w' := by
  have HI := Aside0.mk (indexFunc_any g lb eg pr ws hl A c w ht hp)
  clear ht hp
  go_enter Tryd.func72, Tryd.ntmps72
  go_wp2_with (go_at_call 97; refine HI.out.mono ?_; rintro e w' ⟨v, rfl, hv, hb⟩; have HV := Aside0.mk hv; clear hv)
  by_cases c1 : 0 ≤ v
  all_goals
    go_wp2
    go_ret
    refine ⟨?_, hb⟩
    have h3 : ws.any pr = decide (0 ≤ v) := by rw [Bool.eq_iff_iff, decide_eq_true_iff]; exact HV.out.symm
    exact congrArg (fun z : Bool => Ending.returned (Value.bool z)) (by rw [h3])

/-! ### the printed functions, with the lengths as a walk shows them -/
variable {p b : T} {ws : List T} {A : Option Addr} {c : Nat}
theorem plGood_any (hb : b.length ≤ 4000000) (hw : ∀ w ∈ ws, w.length ≤ 4000000) (w : World) (ht : Texts w A c ws) :
    Calls Tryd.prog 47 #[.agg #[.string (str p), .string (str b), .slice A ws.length c]] w fun e w' => e = .returned (.bool (goodB p b ws)) ∧ Below w.heap.size w w' := by
  have h := spec_plGood.calls 4000300 (str p) (str b) A c (ws.map str) _ w ht.1 ht.2 (plGood_eq p b ws hb hw 4000300 (by omega))
  rwa [List.length_map] at h
theorem plClean_any (t : T) (htl : t.length ≤ 4000000) (hw : ∀ w ∈ ws, w.length ≤ 4000000) (hl : ws.length ≤ 4000000) (w : World) (ht : Texts w A c ws) :
    Calls Tryd.prog 81 #[.agg #[.string (str p), .string (str b), .slice A ws.length c], .string (str t)] w fun e w' => e = .returned (.bool (cleanB ws t)) ∧ Below w.heap.size w w' := by
  have h := spec_plClean.calls (ws.length + t.length + 3) (str p) (str b) A c (ws.map str) (str t) _ w ht.1 ht.2 (plClean_eq (str p) (str b) ws t htl hw hl _ (by omega))
  rwa [List.length_map] at h
theorem areSigns_any (t : T) (ht : t.length ≤ 4000000) (a d : Nat) (w : World) : Calls Tryd.prog 52 #[.string (str t), .int .i64 a, .int .i64 d] w fun e w' => e = .returned (.bool (decide (Some t a d))) ∧ Drawn0 w w' :=
  impl_areSigns.calls (t.length + 1) (str t) a d _ w (areSigns_eq t ht a d _ (by omega))
theorem plSigns_any (t : T) (ht : t.length ≤ 4000000) (a d : Nat) (w : World) : Calls Tryd.prog 48 #[.string (str t), .int .i64 a, .int .i64 d] w fun e w' => e = .returned (.bool (decide (Some t a d))) ∧ Drawn0 w w' :=
  spec_plSigns.calls (t.length + 1) (str t) a d _ w (plSigns_eq t ht a d _ (by omega))
theorem plHas_any (t x : T) (ht : t.length ≤ 4000000) (hx : x.length ≤ 4000000) (w : World) : Calls Tryd.prog 49 #[.string (str t), .string (str x)] w fun e w' => e = .returned (.bool (hasB t x)) ∧ Drawn0 w w' :=
  spec_plHas.calls (t.length + 2) (str t) (str x) _ w (plHas_eq t x ht hx _ (by omega))

/-! ### a word that is none -/
theorem isScheme1_tells (ws : List T) (hw : ∀ w ∈ ws, w.length ≤ 4000000) (w : World) : TellsS 73 #[] (fun x => !decide (Some x 1 4)) ws w := by
  intro W x hb hx
  have HS := Aside0.mk (fun W => areSigns_any x (hw x hx) 1 4 W)
  have HB := Aside0.mk hb
  clear hb
  go_enter Tryd.func73, Tryd.ntmps73
  go_wp2_with (go_at_call 52; refine (HS.out _).mono ?_; rintro e w' ⟨rfl, ⟨nd, rfl⟩⟩)
  go_ret
  exact ⟨rfl, pw_below_drewN HB.out _⟩

/-! ### a beginning of a word -/
theorem extract_end (t : T) (i : Nat) : (str t).extract i t.length = str (t.drop i) := by
  rw [extract_str, List.take_of_length_le (by rw [List.length_drop]; omega)]

theorem hasPrefix_iff (w p : T) : Lib.hasPrefix w p = decide (p <+: w) := by
  unfold Lib.hasPrefix
  rw [Bool.eq_iff_iff, List.isPrefixOf_iff_prefix, decide_eq_true_iff]

theorem tail1_tells (ws : List T) (t : T) (ht : t.length ≤ 4000000) (i : Nat) (hi : i ≤ t.length) (B1 B2 : Nat) (w : World) (h1 : w.cell? ⟨B1, 0, none⟩ = some (.string (str t))) (h2 : w.cell? ⟨B2, 0, none⟩ = some (.int .i64 i)) :
    TellsS 102 #[.pointer (some ⟨B1, 0, none⟩), .pointer (some ⟨B2, 0, none⟩)] (fun x => decide (t.drop i <+: x)) ws w := by
  intro W x hb hx
  have k1 : W.cell? ⟨B1, 0, none⟩ = some (.string (str t)) := (hb.cell (World.block_lt_of_cell? w _ h1)).trans h1
  have k2 : W.cell? ⟨B2, 0, none⟩ = some (.int .i64 i) := (hb.cell (World.block_lt_of_cell? w _ h2)).trans h2
  have HB := Aside0.mk hb
  have HP := Aside0.mk (fun W => Tryd.strings_HasPrefix (str x) (str (t.drop i)) W)
  rw [show (str x).data.toList = x from rfl, show (str (t.drop i)).data.toList = t.drop i from rfl, hasPrefix_iff] at HP
  have hsz := str_size t
  have ex := extract_end t i
  clear hb h1 h2
  go_enter Tryd.func102, Tryd.ntmps102
  go_wp2_with (go_at_call 103; refine (HP.out _).mono ?_; rintro e w' ⟨rfl, rfl⟩)
  go_ret
  exact ⟨rfl, HB.out⟩
end Go.Proofs.YtoieadofldkccaaDoor.Plates
