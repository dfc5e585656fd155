/-
  Plates: rows of numbers of a function's own; the sums of spec.plFrom.
-/
import Derived.Test.YtoieadofldkccaaDoorHPScheme
namespace Go.Proofs.YtoieadofldkccaaDoor.Plates
open Go.RowKit Go.Proofs.YtoieadofldkccaaDoorW.PrintWords Go.Proofs.YtoieadofldkccaaDoorW.PrintLast Go.Proofs.YtoieadofldkccaaDoorW.PrintMore Go.Proofs.YtoieadofldkccaaDoor.PFnExactCountBeginning
set_option linter.unusedVariables false
set_option linter.unusedSimpArgs false

/-- block B holds n numbers, f i at place i -/
def Row (W : World) (B n : Nat) (f : Nat → Nat) : Prop := ∃ arr : Array Value, W.heap[B]? = some (.cells arr 3 (0, 0)) ∧ ∀ j, j < n → arr[j]? = some (.int .i64 (f j : Nat))

theorem Row.lt {W : World} {B n : Nat} {f : Nat → Nat} (h : Row W B n f) : B < W.heap.size := by
  obtain ⟨arr, h, _⟩ := h
  exact (Array.getElem?_eq_some_iff.1 h).1
theorem Row.cell {W : World} {B n : Nat} {f : Nat → Nat} (h : Row W B n f) (i : Nat) (hi : i < n) : W.cell? ⟨B, i, none⟩ = some (.int .i64 (f i : Nat)) := by
  obtain ⟨arr, h, hv⟩ := h
  exact (Go.Joins.cell_of_block h i).trans (hv i hi)
theorem Row.frozen {W : World} {B n : Nat} {f : Nat → Nat} (h : Row W B n f) (i : Nat) : W.frozen? ⟨B, i, none⟩ = false := by
  obtain ⟨arr, h, hv⟩ := h
  simp [World.frozen?, h]
theorem Row.block {W W' : World} {B n : Nat} {f : Nat → Nat} (h : Row W B n f) (e : W'.heap[B]? = W.heap[B]?) : Row W' B n f := by
  obtain ⟨arr, h, hv⟩ := h
  exact ⟨arr, e.trans h, hv⟩
theorem Row.below {W W' : World} {B n K : Nat} {f : Nat → Nat} (h : Row W B n f) (hb : Below K W W') (hk : B < K) : Row W' B n f := h.block (hb.block B hk)
theorem Row.imp {W : World} {B n : Nat} {f g : Nat → Nat} (h : Row W B n f) (e : ∀ j, j < n → f j = g j) : Row W B n g := by
  obtain ⟨arr, h, hv⟩ := h
  exact ⟨arr, h, fun j hj => by rw [hv j hj, e j hj]⟩
theorem Row.set {W : World} {B n : Nat} {f : Nat → Nat} (h : Row W B n f) (i x : Nat) (hi : i < n) : Row (W.setCell ⟨B, i, none⟩ (.int .i64 (x : Nat))) B n (fun j => if j = i then x else f j) := by
  obtain ⟨arr, h, hv⟩ := h
  refine ⟨arr.setIfInBounds i (.int .i64 (x : Nat)), ?_, fun j hj => ?_⟩
  · simp only [World.setCell, Array.getElem?_modify]
    rw [h]
    simp
  · rw [Array.getElem?_setIfInBounds]
    have hia : i < arr.size := by
      have := hv i hi
      exact (Array.getElem?_eq_some_iff.1 this).1
    by_cases e : i = j
    · subst e; simp [hia]
    · rw [if_neg e, hv j hj]
      show _ = some (Value.int .i64 ((if j = i then x else f j : Nat) : Int))
      rw [if_neg (fun g => e g.symm)]
theorem Row.other {W : World} {B B' n i : Nat} {f : Nat → Nat} {v : Value} (h : Row W B n f) (e : B' ≠ B) : Row (W.setCell ⟨B', i, none⟩ v) B n f := h.block (Below.heap_setCell _ _ _ _ (fun g => e g.symm))

theorem info3 : (Tryd.prog.info? 3).isSome = true := by kernel_rfl
theorem make_row (n : Nat) (h : n ≤ 1000) : ∃ arr : Array Value, (∀ W, (Instr.makeSlice 76 (.int .i64 n) (.int .i64 n)).run Tryd.prog W = .ok (.slice (some ⟨W.heap.size, 0, none⟩) n n) (W.alloc (.cells arr 3))) ∧ ∀ j, j < n → arr[j]? = some (.int .i64 ((0 : Nat) : Int)) := by
  obtain ⟨i, hi⟩ := Option.isSome_iff_exists.1 info3
  have hh : ((Tryd.prog.info? 3).map fun i => (i.zero, i.size, i.bytes)) = some (some (.int .i64 0), 1, 8) := by kernel_rfl
  rw [hi] at hh
  simp only [Option.map_some, Option.some.injEq, Prod.mk.injEq] at hh
  obtain ⟨h0, h1, h2⟩ := hh
  refine ⟨madeCells (Value.int .i64 0).cells (n * i.size), fun W => ?_, fun j hj => ?_⟩
  case refine_2 => rw [h1]; simp [madeCells, Value.cells, hj, Nat.mod_one]
  have hr := run_makeSlice (P := Tryd.prog) (w := W) 76 3 i (.int .i64 0) (by kernel_rfl) hi h0 .i64 .i64 n n (by omega) (Int.le_refl _) (by rw [h1]; omega) (by rw [h2]; omega) (by omega)
  rwa [Int.toNat_natCast] at hr
theorem row_new (W : World) (arr : Array Value) (n : Nat) (h : ∀ j, j < n → arr[j]? = some (.int .i64 ((0 : Nat) : Int))) : Row (W.alloc (.cells arr 3)) W.heap.size n (fun _ => 0) := ⟨arr, al_new _ _ _ rfl, h⟩

/-! ### the sums -/
open Classical in
/-- the ways that go through one sign -/
noncomputable def term (b : T) (ws : List T) (ps s : T) (c : UInt8) : Nat := if c ∉ b ∧ Clean ws (s ++ [c]) then cnt b ws ps (s ++ [c]) else 0
/-- through the first k signs -/
noncomputable def part (b : T) (ws : List T) (ps s sg : T) (k : Nat) : Nat := ((sg.take k).map (term b ws ps s)).sum
theorem cnt_nil (b : T) (ws : List T) (t : T) : cnt b ws [] t = 1 := by rw [cnt]
theorem cnt_part (b : T) (ws : List T) (x : UInt8) (ps s : T) : cnt b ws (x :: ps) s = part b ws ps s (signsAt x) (signsAt x).length := by
  unfold part
  rw [List.take_length, cnt]
  rfl
theorem part_zero (b : T) (ws : List T) (ps s sg : T) : part b ws ps s sg 0 = 0 := rfl
theorem part_succ (b : T) (ws : List T) (ps s sg : T) (k : Nat) (h : k < sg.length) : part b ws ps s sg (k + 1) = part b ws ps s sg k + term b ws ps s sg[k] := by
  unfold part
  rw [List.take_succ_eq_append_getElem h, List.map_append, List.sum_append]
  simp
theorem sum_take_le (l : List Nat) (k : Nat) : (l.take k).sum ≤ l.sum := by
  have := List.sum_append (l₁ := l.take k) (l₂ := l.drop k)
  rw [List.take_append_drop] at this
  omega
theorem part_le (b : T) (ws : List T) (x : UInt8) (ps s : T) (k : Nat) : part b ws ps s (signsAt x) k ≤ cnt b ws (x :: ps) s := by
  rw [cnt_part]
  unfold part
  rw [List.take_length, List.map_take]
  exact sum_take_le _ _
theorem term_yes {b : T} {ws : List T} {ps s : T} {c : UInt8} (h : c ∉ b) (h2 : Clean ws (s ++ [c])) : term b ws ps s c = cnt b ws ps (st ws (s ++ [c])) := by
  unfold term
  rw [if_pos ⟨h, h2⟩]
  exact cnt_st _ _ h2
theorem term_no {b : T} {ws : List T} {ps s : T} {c : UInt8} (h : ¬ (c ∉ b ∧ Clean ws (s ++ [c]))) : term b ws ps s c = 0 := by
  unfold term
  rw [if_neg h]

/-! ### what the functions answer -/
theorem plIndex_any (S : List T) (t : T) (hl : S.length ≤ 4000000) (ht : t ∈ S) : ∃ (j : Nat) (hj : j < S.length), S[j] = t ∧ ∀ (A : Option Addr) (c : Nat) (w : World), Texts w A c S → Calls Tryd.prog 83 #[.slice A S.length c, .string (str t)] w fun e w' => e = .returned (.int .i64 (j : Int)) ∧ Drawn0 w w' := by
  obtain ⟨j, hj, e, h⟩ := plIndex_eq S t hl ht (S.length + 1) (by omega)
  refine ⟨j, hj, e, fun A c w hT => ?_⟩
  have := spec_plIndex.calls (S.length + 1) A c (S.map str) (str t) _ w hT.1 hT.2 h
  rwa [List.length_map] at this

theorem plStates_any (p b : T) (ws : List T) (hl : ws.length ≤ 3) (hw : ∀ w ∈ ws, w.length ≤ 4 ∧ 1 ≤ w.length) :
    ∃ S : List T, (∀ s ∈ S, s = [] ∨ ∃ w ∈ ws, s <+: w) ∧ S.length ≤ 13 ∧ (∀ t, st ws t ∈ S) ∧ ∀ (A : Option Addr) (c : Nat) (w : World), Texts w A c ws → Calls Tryd.prog 82 #[.agg #[.string (str p), .string (str b), .slice A ws.length c]] w fun e w' => ∃ A' c', e = .returned (.slice A' S.length c') ∧ Texts w' A' c' S ∧ Below w.heap.size w w' := by
  obtain ⟨S, z, h0, h13, hb, hk⟩ := plStates_eq (str p) (str b) ws hl hw
  refine ⟨S, z, h13, st_mem h0 hb, fun A c w hT => ?_⟩
  have := spec_plStates.calls 2001 (str p) (str b) A c (ws.map str) _ w hT.1 hT.2 (hk 2001 (by omega))
  rw [List.length_map] at this
  refine this.mono ?_
  rintro e w' ⟨v, rfl, hR, hb⟩
  obtain ⟨A', c', rfl⟩ := Kd.R_slice hR
  have hr := (Kd.R_reads' hR).2
  refine ⟨A', c', by rw [List.length_map], ⟨hr.2, hr.1⟩, hb⟩
end Go.Proofs.YtoieadofldkccaaDoor.Plates
