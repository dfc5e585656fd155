/-
  Plates: the longest end of a text with which a word begins.
-/
import Derived.Test.YtoieadofldkccaaDoorHPFuncs
import Derived.Lib.SmallJoins
namespace Go.Proofs.YtoieadofldkccaaDoor.Plates
open Go.RowKit Go.Proofs.YtoieadofldkccaaDoorW.PrintWords Go.Proofs.YtoieadofldkccaaDoorW.PrintLast Go.Proofs.YtoieadofldkccaaDoorW.PrintMore Go.Proofs.YtoieadofldkccaaDoor.PFnExactCountBeginning
set_option linter.unusedVariables false
set_option linter.unusedSimpArgs false

/-- a word begins with it, or is it -/
def Heads (ws : List T) (t : T) : Bool := ws.any fun w => decide (t <+: w)
def tl (ws : List T) : T → T
  | [] => []
  | c :: t => if Heads ws (c :: t) then c :: t else tl ws t

theorem st_short {ws : List T} (hw : ∀ w ∈ ws, w.length ≤ 4) : ∀ (t : T), st ws t = st ws (t.drop (t.length - 4)) := by
  intro t
  induction t with
  | nil => rfl
  | cons c t ih =>
    by_cases h : t.length < 4
    · rw [show (c :: t).length - 4 = 0 by rw [List.length_cons]; omega, List.drop_zero]
    · rw [st, if_neg, ih, List.length_cons, show t.length + 1 - 4 = (t.length - 4) + 1 by omega, List.drop_succ_cons]
      rintro ⟨w, hm, hp, hlt⟩
      have := hw w hm
      rw [List.length_cons] at hlt; omega

theorem tl_st {ws : List T} {t : T} (h : Clean ws t) : tl ws t = st ws t := by
  induction t with
  | nil => rfl
  | cons c t ih =>
    rw [tl, st, ih (h.suffix (List.suffix_cons c t))]
    have e : (Heads ws (c :: t) = true) ↔ Begins ws (c :: t) := by
      unfold Heads
      rw [List.any_eq_true]
      constructor
      · rintro ⟨w, hm, hp⟩
        have hp := of_decide_eq_true hp
        refine ⟨w, hm, hp, ?_⟩
        rcases Nat.lt_or_ge (c :: t).length w.length with g | g
        · exact g
        · have := List.IsPrefix.eq_of_length_le hp g
          exact absurd (this ▸ List.infix_refl _) (h w hm)
      · rintro ⟨w, hm, hp, _⟩
        exact ⟨w, hm, decide_eq_true hp⟩
    by_cases g : Begins ws (c :: t)
    · rw [if_pos g, if_pos (e.2 g)]
    · rw [if_neg g, if_neg (fun x => g (e.1 x))]

theorem tl_clean {ws : List T} {t : T} (h : Clean ws t) (hw : ∀ w ∈ ws, w.length ≤ 4) : tl ws (t.drop (t.length - 4)) = st ws t := by
  rw [tl_st (h.suffix (List.drop_suffix _ _)), ← st_short hw]

/-- a counter, as a value -/
abbrev counterV (p b : T) (A : Option Addr) (n c : Nat) (m : Value) : Value := .agg #[.string (str p), .string (str b), .slice A n c, m]

theorem al_size (w : World) (o : Obj) : (w.alloc o).heap.size = w.heap.size + 1 := by
  show (w.heap.push o).size = _; rw [Array.size_push]
theorem al_new (w : World) (o : Obj) (n : Nat) (h : n = w.heap.size) : (w.alloc o).heap[n]? = some o := by
  subst h
  show (w.heap.push o)[w.heap.size]? = some o
  rw [Array.getElem?_push, if_pos rfl]
theorem al_old (w : World) (o : Obj) (n : Nat) (x : Obj) (h : w.heap[n]? = some x) : (w.alloc o).heap[n]? = some x := by
  have hn : n < w.heap.size := (Array.getElem?_eq_some_iff.1 h).1
  show (w.heap.push o)[n]? = some x
  rw [Array.getElem?_push, if_neg (by omega), h]

set_option maxRecDepth 100000 in
set_option maxHeartbeats 2000000 in
theorem tail_any (p b : T) (ws : List T) (hl : ws.length ≤ 4000000) (A : Option Addr) (c : Nat) (bm : Nat) (t : T) (ht : t.length ≤ 4000000) (w : World) (hT : Texts w A c ws) :
    Calls Tryd.prog 85 #[counterV p b A ws.length c (.map (some bm)), .string (str t)] w fun e w' => e = .returned (.string (str (tl ws (t.drop (t.length - 4))))) ∧ Below w.heap.size w w' := by
  have hsz := str_size t
  have em : max (0 : Int) (t.length - 4) = ((t.length - 4 : Nat) : Int) := by omega
  go_enter Tryd.func85, Tryd.ntmps85
  go_wp2
  go_loopg [5] (t.length + 2) (fun gg v5 wr => ∃ (i B : Nat), v5 = .pointer (some ⟨B, 0, none⟩) ∧ i ≤ t.length ∧ t.length - i < gg ∧ Aside0 (tl ws (t.drop (t.length - 4)) = tl ws (t.drop i)) ∧ w.heap.size + 1 < B ∧ Aside0 (wr.heap[w.heap.size]? = some (.cells #[.string (str p), .string (str b), .slice A ws.length c, .map (some bm)] 58 (0, 0))) ∧ Aside0 (wr.heap[w.heap.size + 1]? = some (.cells #[.string (str t)] 9 (0, 0))) ∧ Aside0 (wr.heap[B]? = some (.cells #[.int .i64 i] 3 (0, 0))) ∧ Aside0 (Below w.heap.size w wr))
  case atStart => exact ⟨t.length - 4, w.heap.size + 1 + 1, rfl, by omega, by omega, ⟨rfl⟩, by omega, ⟨al_old _ _ _ _ (al_old _ _ _ _ (al_new _ _ _ rfl))⟩, ⟨al_old _ _ _ _ (al_new _ _ _ (al_size _ _).symm)⟩, ⟨al_new _ _ _ (by rw [al_size, al_size])⟩, ⟨((((Below.refl _ w).alloc (Nat.le_refl _) _).alloc (by simp) _).alloc (by simp; omega) _)⟩⟩
  case round =>
    obtain ⟨i, B, rfl, i1, i2, HV, hB, B0, B1, B2, HB⟩ := hrel
    have k0 := Go.Joins.cell_of_block B0.out 0
    have k2 := Go.Joins.cell_of_block B0.out 2
    have kt := Go.Joins.cell_of_block B1.out 0
    have ki := Go.Joins.cell_of_block B2.out 0
    have ui := Go.Joins.unfrozen_of_block B2.out 0
    simp only [List.getElem?_toArray, List.getElem?_cons_zero, List.getElem?_cons_succ] at k0 k2 kt ki
    by_cases hi : i < t.length
    · have HT := Aside0.mk (fun W (hb : Below w.heap.size w W) h1 h2 => containsFunc_any 102 #[.pointer (some ⟨w.heap.size + 1, 0, none⟩), .pointer (some ⟨B, 0, none⟩)] (enters_of Tryd.func102 (by kernel_rfl) rfl) (fun x => decide (t.drop i <+: x)) ws hl A c W (texts_below hT hb) (tail1_tells ws t ht i i1 _ _ W h1 h2))
      have hd : t.drop i = t[i] :: t.drop (i + 1) := List.drop_eq_getElem_cons hi
      have HH : Aside0 (tl ws (t.drop i) = if ws.any (fun x => decide (t.drop i <+: x)) then t.drop i else tl ws (t.drop (i + 1))) := ⟨by rw [hd, tl]; rfl⟩
      cases hq : ws.any (fun x => decide (t.drop i <+: x)) with
      | true =>
        rw [hq] at HT HH
        clear hq hd
        have ex := extract_end t i
        go_wp2_with (go_at_call 72; refine (HT.out _ HB.out kt ki).mono ?_; rintro e w1 ⟨rfl, hb1⟩; have kt1 := (hb1.cell (World.block_lt_of_cell? _ _ kt)).trans kt; have ki1 := (hb1.cell (World.block_lt_of_cell? _ _ ki)).trans ki)
        go_ret
        exact ⟨congrArg (fun z => Ending.returned (Value.string (str z))) (by rw [HV.out, HH.out]; rfl), HB.out.trans (hb1.mono HB.out.size)⟩
      | false =>
        rw [hq] at HT HH
        clear hq hd
        go_wp2_with (go_at_call 72; refine (HT.out _ HB.out kt ki).mono ?_; rintro e w1 ⟨rfl, hb1⟩; have B0' := (hb1.block _ (World.block_lt_of_cell? _ _ k0)).trans B0.out; have B1' := (hb1.block _ (World.block_lt_of_cell? _ _ kt)).trans B1.out; have B2' := (hb1.block _ (World.block_lt_of_cell? _ _ ki)).trans B2.out; have ki1 := (hb1.cell (World.block_lt_of_cell? _ _ ki)).trans ki)
        have hBw := World.block_lt_of_cell? _ _ ki
        have s1 := hb1.size
        have HB1 := HB.out.trans (hb1.mono HB.out.size)
        go_roundg (t.length - i)
        case measure => omega
        case rel => exact ⟨i + 1, w1.heap.size, rfl, by omega, by omega, ⟨by rw [HV.out, HH.out]; rfl⟩, by simp only at hBw; omega, ⟨al_old _ _ _ _ B0'⟩, ⟨al_old _ _ _ _ B1'⟩, ⟨by push_cast; exact al_new _ _ _ rfl⟩, ⟨HB1.alloc HB1.size _⟩⟩
    · obtain rfl : i = t.length := by omega
      have HE : Aside0 (tl ws (t.drop (t.length - 4)) = []) := ⟨by rw [HV.out, List.drop_length]; rfl⟩
      go_wp2
      go_ret
      exact ⟨congrArg (fun z => Ending.returned (Value.string (str z))) HE.out.symm, HB.out⟩
end Go.Proofs.YtoieadofldkccaaDoor.Plates
