/-
  Plates: the laws' marks: markText, markStringS, markScheme, heldScheme.
-/
import Derived.Test.YtoieadofldkccaaDoorHPPlBar
import Derived.Test.YtoieadofldkccaaDoorHPPrints4
namespace Go.Proofs.YtoieadofldkccaaDoor.Plates
open Go.RowKit Go.Proofs.YtoieadofldkccaaDoorW.PrintWords Go.Proofs.YtoieadofldkccaaDoorW.PrintLast Go.Proofs.YtoieadofldkccaaDoorW.PrintMore Go.Proofs.YtoieadofldkccaaDoor.PFnExactCountBeginning Go.Proofs.YtoieadofldkccaaDoor.PBar
set_option linter.unusedVariables false
set_option linter.unusedSimpArgs false

theorem gr_trans {w1 w2 w3 : World} {r : Option Nat} (h : w1.grownBy w2 r) (k : w2.grownBy w3 r) : w1.grownBy w3 r :=
  ⟨k.os.trans h.os, k.tape.trans h.tape, k.output.trans h.output, Nat.le_trans h.size k.size, fun i hi hr => (k.block i (Nat.lt_of_lt_of_le hi h.size) hr).trans (h.block i hi hr)⟩
theorem gr_below {w1 w2 : World} (h : Below w1.heap.size w1 w2) (r : Option Nat) : w1.grownBy w2 r := ⟨h.os, h.tape, h.output, h.size, fun i hi _ => h.block i hi⟩

theorem strOf_one (x : Int) : (strOfNums [x]).size = 1 := by simp [strOfNums, ByteArray.size]

theorem mark_l0 : ∀ (n k fuel : Nat) (x : ByteArray), k < 10 ^ n → k ≤ 2000000 → n < fuel → x.size + n ≤ 1000 → ∃ r, laws_markText.l0 fuel (k : Int) x = some r
  | 0, k, fuel, x, hk, _, hf, hx => by
    obtain ⟨f, rfl⟩ : ∃ f, fuel = f + 1 := ⟨fuel - 1, by omega⟩
    have : k = 0 := by simp at hk; exact hk
    subst this
    exact ⟨_, by rw [laws_markText.l0, if_neg (by omega), if_pos (by omega)]⟩
  | n + 1, k, fuel, x, hk, hk2, hf, hx => by
    obtain ⟨f, rfl⟩ : ∃ f, fuel = f + 1 := ⟨fuel - 1, by omega⟩
    by_cases h0 : k = 0
    · subst h0
      exact ⟨_, by rw [laws_markText.l0, if_neg (by omega), if_pos (by omega)]⟩
    · have e : wrap64 (Int.tdiv (k : Int) 10) = ((k / 10 : Nat) : Int) := by
        rw [Int.tdiv_eq_ediv_of_nonneg (by omega), wi (by omega) (by omega)]; omega
      have h1 : k / 10 < 10 ^ n := by
        rw [Nat.pow_succ] at hk
        omega
      rw [laws_markText.l0, if_pos (by omega), Option.bind_some, if_pos (by rw [strOf_one]; omega), e]
      exact mark_l0 n (k / 10) f _ h1 (by omega) (by omega) (by rw [ByteArray.size_append, strOf_one]; omega)

theorem mark_some (k : Nat) (h : k ≤ 2000000) : ∃ r, laws_markText.f 30 (k : Int) = some r := by
  unfold laws_markText.f
  by_cases h0 : (k : Int) ≤ 0
  · exact ⟨_, by rw [if_pos h0]⟩
  · rw [if_neg h0]
    exact mark_l0 20 k 30 _ (Nat.lt_of_le_of_lt h (by decide)) h (by decide) (by decide)

/-- the k-th mark -/
def markT (k : Nat) : ByteArray := (laws_markText.f 30 (k : Int)).getD ByteArray.empty
def markL (k : Nat) : T := (markT k).data.toList
theorem str_markL (k : Nat) : str (markL k) = markT k := (str_of _).symm
theorem markT_eq (k : Nat) (h : k ≤ 2000000) : ∀ d, laws_markText.f (30 + d) (k : Int) = some (markT k)
  | 0 => by
    obtain ⟨r, hr⟩ := mark_some k h
    unfold markT
    rw [Nat.add_zero, hr]
    rfl
  | d + 1 => laws_markText.mono (k : Int) (30 + d) _ (markT_eq k h d)
theorem markText_any (k : Nat) (h : k ≤ 2000000) (w : World) : Calls Tryd.prog 79 #[.int .i64 k] w fun e w' => e = .returned (.string (str (markL k))) ∧ Below w.heap.size w w' := by
  rw [str_markL]
  exact laws_markText.calls 30 (k : Int) _ w (markT_eq k h 0)

/-- n marks from k on -/
def marks (k n : Nat) : List T := (List.range n).map fun i => markL (k + i)
theorem marks_length (k n : Nat) : (marks k n).length = n := by simp [marks]
theorem marks_succ (k n : Nat) : marks k (n + 1) = marks k n ++ [markL (k + n)] := by
  unfold marks
  rw [List.range_succ, List.map_append]
  rfl
theorem marks_get (k n i : Nat) (h : i < (marks k n).length) : (marks k n)[i] = markL (k + i) := by
  simp [marks]

theorem held_l0 (k n : Nat) (hk : k + n ≤ 2000000) : ∀ (r i fuel : Nat), i + r = n → r + 30 < fuel → laws_heldStringS.l0 fuel ((marks k n).map str) ((k + i : Nat) : Int) (i : Int) = some ((k + n : Nat) : Int)
  | 0, i, fuel, hi, hf => by
    obtain ⟨f, rfl⟩ : ∃ f, fuel = f + 1 := ⟨fuel - 1, by omega⟩
    rw [laws_heldStringS.l0, List.length_map, marks_length, if_neg (by omega), show i = n by omega]
  | r + 1, i, fuel, hi, hf => by
    obtain ⟨d, rfl⟩ : ∃ d, fuel = (30 + d) + 1 := ⟨fuel - 31, by omega⟩
    have hlt : i < (marks k n).length := by rw [marks_length]; omega
    rw [laws_heldStringS.l0, List.length_map, marks_length, if_pos (by omega), if_pos (by omega), markT_eq (k + i) (by omega) d, Option.bind_some, rdOf_map _ i hlt, marks_get, str_markL, if_pos rfl, wi (by omega) (by omega), wi (by omega) (by omega)]
    rw [show ((k + i : Nat) : Int) + 1 = ((k + (i + 1) : Nat) : Int) by omega, show (i : Int) + 1 = ((i + 1 : Nat) : Int) by omega]
    exact held_l0 k n hk r (i + 1) (30 + d) (by omega) (by omega)

theorem heldScheme_any {p b : T} {A : Option Addr} {c k n : Nat} (hk : k + n ≤ 2000000) (w : World) (ht : Texts w A c (marks k n)) :
    Calls Tryd.prog 22 #[.agg #[.string (str p), .string (str b), .slice A n c], .int .i64 k] w fun e w' => e = .returned (.int .i64 ((k + n : Nat) : Int)) ∧ Below w.heap.size w w' := by
  have e : laws_heldScheme.f (n + 31) (str p) (str b) ((marks k n).map str) k = some ((k + n : Nat) : Int) := by
    unfold laws_heldScheme.f laws_heldStringS.f
    have := held_l0 k n hk n 0 (n + 31) (by omega) (by omega)
    simp only [Nat.add_zero] at this
    rw [show (0 : Int) = ((0 : Nat) : Int) from rfl, this, Option.bind_some, if_neg (by omega)]
  have h := laws_heldScheme.calls (n + 31) (str p) (str b) A c ((marks k n).map str) k _ w ht.1 ht.2 e
  rwa [List.length_map, marks_length] at h

theorem Own.set {w : World} {base g c : Nat} {L : List T} (h : Own w base (some ⟨g, 0, none⟩) c L) (i : Nat) (t : T) (hi : i < L.length) :
    Own (w.setCell ⟨g, i, none⟩ (.string (str t))) base (some ⟨g, 0, none⟩) c (L.set i t) ∧ (w.cell? ⟨g, i, none⟩).isSome = true ∧ w.frozen? ⟨g, i, none⟩ = false := by
  have hr := h.row
  rcases hr.2 with ⟨e, e2⟩ | ⟨g', cap, cur, e, hg, hx, h1, h2, h3, h4⟩
  · cases e
  · injection e with e1 e2 e3
    injection e1 with e1
    injection e1 with e1
    subst e1
    subst e3
    refine ⟨?_, ?_, blk_frozen hx i⟩
    · show Kd.R Kd.string 9 _ base (fun _ => True) (.slice _ (L.set i t).length c) _
      rw [List.length_set]
      refine Kd.R_of_own ⟨by unfold encs; simp, .inr ⟨g, c, _, by simp, hg, blk_set hx i _, by simpa using h1, h2, by simpa using h3, ?_⟩⟩ (fun _ _ => trivial)
      rw [Array.toList_setIfInBounds, List.length_map, List.length_set, List.take_set, h4]
      unfold encs
      rw [List.map_map, List.map_set]
      rfl
    · rw [blk_cell hx i]
      have : i < cur.size := by omega
      simp [this]
theorem Own.at {w : World} {base : Nat} {A : Option Addr} {c : Nat} {L : List T} (h : Own w base A c L) (hl : L ≠ []) : ∃ g, A = some ⟨g, 0, none⟩ ∧ base ≤ g ∧ g < w.heap.size := by
  rcases h.row.2 with ⟨e, e2⟩ | ⟨g', cap, cur, e, hg, hx, _⟩
  · exact absurd (List.length_eq_zero_iff.1 e2) hl
  · injection e with e1
    exact ⟨g', e1, hg, (Array.getElem?_eq_some_iff.1 hx).1⟩

set_option maxRecDepth 100000 in
set_option maxHeartbeats 4000000 in
theorem markStringS_any {base : Nat} {A : Option Addr} {c k : Nat} {ws : List T} (hk : k + ws.length ≤ 2000000) (w : World) (ho : Own w base A c ws) :
    Calls Tryd.prog 55 #[.slice A ws.length c, .int .i64 k] w fun e w' => e = .returned (.int .i64 ((k + ws.length : Nat) : Int)) ∧ Own w' base A c (marks k ws.length) ∧ w.grownBy w' (A.map (·.block)) := by
  have HO := Aside0.mk ho
  have HMT := Aside0.mk (fun k h w => markText_any k h w)
  clear ho
  go_enter Tryd.func55, Tryd.ntmps55
  go_wp2
  go_loopg [1, 5] (ws.length + 1) (fun gg v1 v5 wr => ∃ i : Nat, v1 = .int .i64 ((k + i : Nat) : Int) ∧ v5 = .int .i64 i ∧ i ≤ ws.length ∧ ws.length - i < gg ∧ Aside0 (Own wr base A c (marks k i ++ ws.drop i)) ∧ Aside0 (w.grownBy wr (A.map (·.block))))
  case atStart => exact ⟨0, rfl, rfl, by omega, by omega, ⟨by have := HO.out; simpa [marks] using this⟩, ⟨gr_below (Below.refl _ _) _⟩⟩
  case round =>
    rename World => V1
    obtain ⟨i, rfl, rfl, i1, i2, HI, HG⟩ := hrel
    by_cases hi : i < ws.length
    · have hlen : (marks k i ++ ws.drop i).length = ws.length := by rw [List.length_append, marks_length, List.length_drop]; omega
      obtain ⟨g, rfl, hg, hg2⟩ := HI.out.at (by intro e; rw [e] at hlen; simp at hlen; omega)
      have hset : (marks k i ++ ws.drop i).set i (markL (k + i)) = marks k (i + 1) ++ ws.drop (i + 1) := by
        rw [List.set_append_right _ _ (by rw [marks_length]; exact Nat.le_refl _), marks_length, Nat.sub_self, List.drop_eq_getElem_cons hi, List.set_cons_zero, marks_succ]
        simp
      have HSE := Aside0.mk (fun W (h : Own W base (some ⟨g, 0, none⟩) c (marks k i ++ ws.drop i)) => h.set i (markL (k + i)) (by rw [hlen]; exact hi))
      rw [hset] at HSE
      clear hset hlen
      go_wp2_with (go_at_call 79; refine (HMT.out (k + i) (by omega) _).mono ?_; rintro e w2 ⟨rfl, hb2⟩; have HI2 := Aside0.mk (HI.out.below hb2); have HG2 := Aside0.mk (gr_trans HG.out (gr_below hb2 _)); obtain ⟨hs1, hs2, hs3⟩ := HSE.out _ HI2.out; have HS1 := Aside0.mk hs1; obtain ⟨u_, hs2⟩ := Option.isSome_iff_exists.1 hs2; clear hs1 hb2)
      go_roundg (ws.length - i)
      case measure => omega
      case rel => exact ⟨i + 1, congrArg (Value.int .i64) (by omega), by first | rfl | go_num, by omega, by omega, HS1, ⟨gr_trans HG2.out ⟨rfl, rfl, rfl, by simp [World.setCell], fun q hq hr => Below.heap_setCell _ _ _ q (fun e => hr (by simp [e]))⟩⟩⟩
    · obtain rfl : i = ws.length := by omega
      go_wp2
      go_ret
      exact ⟨rfl, by have := HI.out; rwa [List.drop_eq_nil_of_le (Nat.le_refl _), List.append_nil] at this, HG.out⟩

set_option maxRecDepth 100000 in
set_option maxHeartbeats 4000000 in
theorem markScheme_any {p b : T} {base : Nat} {A : Option Addr} {c k : Nat} {ws : List T} (hk : k + ws.length ≤ 2000000) (w : World) (hb0 : base ≤ w.heap.size) (ho : Own w base A c ws) :
    Calls Tryd.prog 21 #[.agg #[.string (str p), .string (str b), .slice A ws.length c], .int .i64 k] w fun e w' => e = .returned (.int .i64 ((k + ws.length : Nat) : Int)) ∧ Own w' base A c (marks k ws.length) ∧ w.grownBy w' (A.map (·.block)) := by
  have HO := Aside0.mk (ho.below ((Below.refl _ w).alloc (Nat.le_refl _) (.cells #[.string (str p), .string (str b), .slice A ws.length c] 28)))
  have HMS := Aside0.mk (fun W (h : Own W base A c ws) => markStringS_any hk W h)
  have HB1 := Aside0.mk ((Below.refl _ w).alloc (Nat.le_refl _) (.cells #[.string (str p), .string (str b), .slice A ws.length c] 28))
  clear ho
  go_enter Tryd.func21, Tryd.ntmps21
  go_wp2_with (go_at_call 55; refine (HMS.out _ HO.out).mono ?_; rintro e w2 ⟨rfl, ho2, hg2⟩; have HO2 := Aside0.mk ho2; have HG2 := Aside0.mk (gr_trans (gr_below HB1.out _) hg2); clear ho2 hg2)
  go_ret
  exact ⟨rfl, HO2.out, HG2.out⟩
end Go.Proofs.YtoieadofldkccaaDoor.Plates
