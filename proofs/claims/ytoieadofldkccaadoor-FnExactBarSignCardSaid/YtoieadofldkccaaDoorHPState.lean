/-
  Plates: the reference's end of a text.
-/
import Derived.Test.YtoieadofldkccaaDoorHPMeth
import Derived.WalkKit
import Derived.RegionTactic
import Derived.Laws.RangeAny
import Derived.IntWalk
namespace Go.Proofs.YtoieadofldkccaaDoor.Plates
open Go.RowKit Go.Proofs.YtoieadofldkccaaDoorW.PrintWords Go.Proofs.YtoieadofldkccaaDoorW.PrintLast Go.Proofs.YtoieadofldkccaaDoorW.PrintMore
open PFake (ML ml_below)
set_option linter.unusedVariables false
set_option linter.unusedSimpArgs false

/-- the walker over a text stands elsewhere -/
def stand (w : World) (b : Nat) (s : ByteArray) (p : Nat) : World := { w with heap := w.heap.setIfInBounds b (.stringIter s p) }
/-- a walker over a text -/
def Walker (w : World) (b : Nat) (s : ByteArray) (p : Nat) : Prop := w.heap[b]? = some (.stringIter s p)
theorem Walker.lt {w : World} {b p : Nat} {s : ByteArray} (h : Walker w b s p) : b < w.heap.size := (Array.getElem?_eq_some_iff.1 h).1
theorem walker_new (w : World) (s : ByteArray) : Walker (w.iter s 0) w.heap.size s 0 := World.iter_heap w s 0
theorem walker_stand {w : World} {b p : Nat} {s : ByteArray} (h : Walker w b s p) (p' : Nat) : Walker (stand w b s p') b s p' := by
  have := h.lt
  simp [Walker, stand, this]
theorem walker_below {B : Nat} {w w' : World} {b p : Nat} {s : ByteArray} (h : Walker w b s p) (hb : Below B w w') (hB : b < B) : Walker w' b s p := by
  unfold Walker; rw [hb.block b hB]; exact h
theorem below_stand {B : Nat} {w0 w : World} (h : Below B w0 w) {b : Nat} (hb : B ≤ b) (s : ByteArray) (p : Nat) : Below B w0 (stand w b s p) :=
  ⟨h.os, h.tape, h.output, by simp [stand]; exact h.size, fun k hk => by
    rw [← h.block k hk]
    simp only [stand]
    rw [Array.getElem?_setIfInBounds_ne (by omega)]⟩
theorem block_stand {w : World} {b n : Nat} {s : ByteArray} {p : Nat} {x : Obj} (h : w.heap[n]? = some x) (hn : n ≠ b) : (stand w b s p).heap[n]? = some x := by
  simp only [stand]
  rw [Array.getElem?_setIfInBounds_ne (by omega)]; exact h
theorem below_iter {B : Nat} {w0 w : World} (h : Below B w0 w) (hB : B ≤ w.heap.size) (s : ByteArray) (p : Nat) : Below B w0 (w.iter s p) := h.alloc hB _
theorem block_iter {w : World} {n : Nat} {s : ByteArray} {p : Nat} {x : Obj} (h : w.heap[n]? = some x) : (w.iter s p).heap[n]? = some x := al_old w _ n x h
theorem size_stand (w : World) (b : Nat) (s : ByteArray) (p : Nat) : (stand w b s p).heap.size = w.heap.size := by simp [stand]

section
variable {P : Program}
theorem next_digit (w : World) (b : Nat) (s : ByteArray) (pos : Nat) (ty : TypeId) (hw : Walker w b s pos) (h : pos < s.size) (ha : (s[pos]'h).toNat < 128) :
    (Instr.next (.pointer (some ⟨b, 0, none⟩)) true ty).run P w = .ok (.tuple #[.bool true, .int .i64 pos, .int .i32 (s[pos]'h).toNat]) (stand w b s (pos + 1)) := by
  have hw' : w.heap[b]? = some (.stringIter s pos) := hw
  simp only [Instr.next, getObj, setObj, Sem.run_bind, Sem.run, hw', Result.andThen, h, if_true, decode_ascii s pos h ha]
  simp [goInt, Sem.run, hw', stand]
theorem next_none (w : World) (b : Nat) (s : ByteArray) (pos : Nat) (ty : TypeId) (hw : Walker w b s pos) (h : ¬ pos < s.size) :
    (Instr.next (.pointer (some ⟨b, 0, none⟩)) true ty).run P w = .ok (.tuple #[.bool false]) w := by
  have hw' : w.heap[b]? = some (.stringIter s pos) := hw
  simp [Instr.next, getObj, Sem.run, hw', h]
end

open Classical in
theorem st_cons (ws : List T) (c : UInt8) (t : T) : st ws (c :: t) = if Begins ws (c :: t) then c :: t else st ws t := by rw [st]

theorem sign_ascii {c : UInt8} (h : Sign c) : c.toNat < 128 := by unfold Sign at h; omega

set_option maxRecDepth 100000 in
set_option maxHeartbeats 4000000 in
theorem plState_any {p b : T} {ws : List T} {A : Option Addr} {c : Nat} (t : T) (ht : t.length ≤ 4000000) (hs : ∀ c ∈ t, c.toNat < 128) (hl : ws.length ≤ 4000000) (hw : ∀ w ∈ ws, w.length ≤ 4000000) (w : World) (hT : Texts w A c ws) :
    Calls Tryd.prog 84 #[.agg #[.string (str p), .string (str b), .slice A ws.length c], .string (str t)] w fun e w' => e = .returned (.string (str (st ws t))) ∧ Below w.heap.size w w' := by
  have hsz := str_size t
  have HT := Aside0.mk hT
  clear hT
  go_enter Tryd.func84, Tryd.ntmps84
  go_wp2
  go_loopg [] (t.length + 1) (fun gg wr => ∃ i : Nat, i ≤ t.length ∧ t.length - i < gg ∧ Aside0 (st ws t = st ws (t.drop i)) ∧ Aside0 (wr.heap[w.heap.size]? = some (.cells #[.string (str p), .string (str b), .slice A ws.length c] 28 (0, 0))) ∧ Aside0 (Walker wr (w.heap.size + 1) (str t) i) ∧ Aside0 (Below w.heap.size w wr))
  case atStart => exact ⟨0, by omega, by omega, ⟨by rw [List.drop_zero]⟩, ⟨block_iter (al_new _ _ _ rfl)⟩, ⟨by have := walker_new (w.alloc (Obj.cells #[Value.string (str p), Value.string (str b), Value.slice A ws.length c] 28)) (str t); rwa [al_size] at this⟩, ⟨below_iter ((Below.refl _ w).alloc (Nat.le_refl _) _) (by rw [al_size]; omega) _ _⟩⟩
  case round =>
    obtain ⟨i, i1, i2, HV, B0, HW, HB⟩ := hrel
    by_cases hi : i < t.length
    · have hnx : ∀ ty, (Instr.next (.pointer (some ⟨w.heap.size + 1, 0, none⟩)) true ty).run Tryd.prog wr = _ := fun ty => next_digit wr (w.heap.size + 1) (str t) i ty HW.out (by rw [str_size]; exact hi) (hs _ (by show t[i] ∈ t; exact List.getElem_mem hi))
      have k2 : (stand wr (w.heap.size + 1) (str t) (i + 1)).cell? ⟨w.heap.size, 2, none⟩ = some (.slice A ws.length c) := (Go.Joins.cell_of_block (block_stand B0.out (by omega)) 2).trans rfl
      go_wp2
      have HB2 := Aside0.mk (below_stand HB.out (b := w.heap.size + 1) (by omega) (str t) (i + 1))
      have HW2 := Aside0.mk (walker_stand HW.out (i + 1))
      have B2 := Aside0.mk (block_stand (b := w.heap.size + 1) (s := str t) (p := i + 1) B0.out (by omega))
      clear hnx HB HW B0 k2
      generalize stand wr (w.heap.size + 1) (str t) (i + 1) = w2 at HB2 HW2 B2 ⊢
      go_loopg [16] (ws.length + 1) (fun gg v16 wr => ∃ j : Nat, v16 = .int .i64 j ∧ j ≤ ws.length ∧ ws.length - j < gg ∧ Aside0 (∀ x ∈ ws.take j, ¬ (t.drop i <+: x ∧ (t.drop i).length < x.length)) ∧ Aside0 (wr.heap[w.heap.size]? = some (.cells #[.string (str p), .string (str b), .slice A ws.length c] 28 (0, 0))) ∧ Aside0 (Walker wr (w.heap.size + 1) (str t) (i + 1)) ∧ Aside0 (Below w.heap.size w wr))
      case atStart => exact ⟨0, rfl, by omega, by omega, ⟨fun x hx => by simp at hx⟩, B2, HW2, HB2⟩
      case round =>
        obtain ⟨j, rfl, j1, j2, HN, B3, HW3, HB3⟩ := hrel
        by_cases hj : j < ws.length
        · obtain ⟨ad, e1, hx⟩ := text_at HT.out j hj
          subst e1
          replace hx := (HB3.out.cell (World.block_lt_of_cell? w _ hx)).trans hx
          have hwl := hw ws[j] (List.getElem_mem hj)
          have hsz2 := str_size ws[j]
          have ex1 : (str ws[j]).extract 0 (t.length - i) = str (ws[j].take (t.length - i)) := by rw [extract_str, List.drop_zero, Nat.sub_zero]
          have ex2 := extract_end t i
          have tk := List.take_succ_eq_append_getElem hj
          have HTK := Aside0.mk tk
          clear tk
          obtain ⟨y, hy⟩ : ∃ y, y = ws[j] := ⟨_, rfl⟩
          have HY := Aside0.mk hy
          rw [← hy] at hx hwl hsz2 ex1
          clear hy
          have hdl : (t.drop i).length = t.length - i := by rw [List.length_drop]
          have HP : Aside0 ((t.drop i <+: y ∧ (t.drop i).length < y.length) ↔ (t.length - i < y.length ∧ y.take (t.length - i) = t.drop i)) := ⟨by
            rw [hdl]
            constructor
            · rintro ⟨h1, h2⟩
              exact ⟨h2, by have := List.prefix_iff_eq_take.1 h1; rw [hdl] at this; exact this.symm⟩
            · rintro ⟨h1, h2⟩
              exact ⟨List.prefix_iff_eq_take.2 (by rw [hdl]; exact h2.symm), h1⟩⟩
          have HN2 : Aside0 (¬ (t.drop i <+: y ∧ (t.drop i).length < y.length) → ∀ x ∈ ws.take (j + 1), ¬ (t.drop i <+: x ∧ (t.drop i).length < x.length)) := ⟨fun h x hx => by
            rw [HTK.out] at hx
            rcases List.mem_append.1 hx with hx | hx
            · exact HN.out x hx
            · rw [List.mem_singleton.1 hx, ← HY.out]; exact h⟩
          clear hdl HTK HN
          have ew : IntKind.i64.wrap ((t.length : Int) - i) = t.length - i := IntWalk.i64_in _ (by omega)
          by_cases c1 : t.length - i < y.length
          · have en : (((t.length : Int) - i).toNat) = t.length - i := by omega
            have d1 : ((t.length : Int) - i < y.length) = True := by simp; omega
            by_cases c2 : y.take (t.length - i) = t.drop i
            · have hb : (y.take (t.length - i) == t.drop i) = true := beq_iff_eq.2 c2
              have HE : Aside0 (st ws t = t.drop i) := ⟨by
                rw [HV.out]
                have hB : Begins ws (t.drop i) := ⟨y, by rw [HY.out]; exact List.getElem_mem hj, (HP.out.2 ⟨c1, c2⟩).1, (HP.out.2 ⟨c1, c2⟩).2⟩
                have e := List.drop_eq_getElem_cons hi
                rw [e] at hB ⊢
                rw [st_cons, if_pos hB]⟩
              clear c2 HP HN2
              go_wp2
              go_quiet (fail)
              go_wp2
              go_ret
              exact ⟨congrArg (fun z => Ending.returned (Value.string (str z))) HE.out.symm, pw_below_drewN HB3.out _⟩
            · have hb : (y.take (t.length - i) == t.drop i) = false := beq_eq_false_iff_ne.2 c2
              have HN3 := Aside0.mk (HN2.out (fun h => c2 (HP.out.1 h).2))
              clear c2 HP HN2
              go_wp2
              go_quiet (fail)
              go_wp2
              go_roundg (ws.length - j)
              case measure => omega
              case rel => exact ⟨j + 1, by first | rfl | go_num, by omega, by omega, HN3, B3, HW3, ⟨pw_below_drewN HB3.out _⟩⟩
          · have HN3 := Aside0.mk (HN2.out (fun h => c1 (HP.out.1 h).1))
            have d1 : ((t.length : Int) - i < y.length) = False := by simp; omega
            clear HP HN2
            go_wp2
            go_quiet (fail)
            go_wp2
            go_roundg (ws.length - j)
            case measure => omega
            case rel => exact ⟨j + 1, by first | rfl | go_num, by omega, by omega, HN3, B3, HW3, ⟨pw_below_drewN HB3.out _⟩⟩
        · obtain rfl : j = ws.length := by omega
          have HE : Aside0 (st ws t = st ws (t.drop (i + 1))) := ⟨by
            have hN := HN.out
            rw [List.take_length] at hN
            rw [HV.out]
            have e := List.drop_eq_getElem_cons hi
            rw [e] at hN ⊢
            rw [st_cons, if_neg]
            rintro ⟨w, hm, h1, h2⟩
            exact hN w hm ⟨h1, h2⟩⟩
          go_wp2
          go_roundg (t.length - i)
          case measure => omega
          case rel => exact ⟨i + 1, by omega, by omega, HE, B3, HW3, HB3⟩
    · have hnx : ∀ ty, (Instr.next (.pointer (some ⟨w.heap.size + 1, 0, none⟩)) true ty).run Tryd.prog wr = _ := fun ty => next_none wr (w.heap.size + 1) (str t) i ty HW.out (by rw [str_size]; exact hi)
      have HE : Aside0 (st ws t = []) := ⟨by rw [HV.out, List.drop_eq_nil_of_le (by omega)]; rfl⟩
      go_wp2
      go_ret
      exact ⟨congrArg (fun z => Ending.returned (Value.string (str z))) HE.out.symm, HB.out⟩
end Go.Proofs.YtoieadofldkccaaDoor.Plates
