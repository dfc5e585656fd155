/-
  Plates: how many plates come before one, and which one comes behind so many: what both sides compute, in plain terms.
-/
import Derived.Test.YtoieadofldkccaaDoorHPBegin
namespace Go.Proofs.YtoieadofldkccaaDoor.Plates
set_option linter.unusedVariables false
set_option linter.unusedSimpArgs false

/-! ### sums -/
/-- the sum of the first k -/
def sumK (F : UInt8 → Nat) (l : T) (k : Nat) : Nat := ((l.take k).map F).sum
theorem sumK_zero (F : UInt8 → Nat) (l : T) : sumK F l 0 = 0 := rfl
theorem sumK_succ (F : UInt8 → Nat) (l : T) (k : Nat) (h : k < l.length) : sumK F l (k + 1) = sumK F l k + F l[k] := by
  unfold sumK
  rw [List.take_succ_eq_append_getElem h, List.map_append, List.sum_append]
  simp
theorem sumK_le (F : UInt8 → Nat) (l : T) (k M : Nat) (h : ∀ c, F c ≤ M) : sumK F l k ≤ l.length * M := by
  unfold sumK
  have h1 := sum_le ((l.take k).map F) M (by intro x hx; obtain ⟨c, _, rfl⟩ := List.mem_map.1 hx; exact h c)
  have h2 : ((l.take k).map F).length ≤ l.length := by rw [List.length_map, List.length_take]; omega
  exact Nat.le_trans h1 (Nat.mul_le_mul_right M h2)

open Classical in
theorem fromN_le {p : T} (b : T) (ws : List T) (t : T) (h : p.length ≤ 8) : fromN p b ws t ≤ 208827064576 := by
  unfold fromN
  split
  · exact cnt_bound b ws _ _ (by rw [List.length_drop]; omega)
  · exact Nat.zero_le _

/-- a barred sign at the end: none -/
theorem fromN_barred (p b : T) (ws : List T) (t : T) (c : UInt8) (h : c ∈ b) : fromN p b ws (t ++ [c]) = 0 := by
  refine fromN_no (fun g => ?_)
  have h1 := g.1.1
  rw [List.length_append, List.length_singleton] at h1
  have h2 := g.1.2 t.length (by rw [List.length_append, List.length_singleton]; omega) (by omega)
  rw [List.getElem_append_right (Nat.le_refl _)] at h2
  simp only [Nat.sub_self, List.getElem_cons_zero] at h2
  exact ((mem_allowed b _ _).1 h2).2.2 h

/-! ### how many come before one -/
/-- through one sign that comes before -/
noncomputable def less (p b : T) (ws : List T) (q : T) (i : Nat) (c : UInt8) : Nat := if c.toNat < (q.getD i 0).toNat then fromN p b ws (q.take i ++ [c]) else 0
/-- that part from the first at a place -/
noncomputable def before (p b : T) (ws : List T) (q : T) (i : Nat) : Nat := ((signsAt (p.getD i 0)).map (less p b ws q i)).sum
/-- that part from one before the place i -/
noncomputable def rankTo (p b : T) (ws : List T) (q : T) : Nat → Nat
  | 0 => 0
  | i + 1 => rankTo p b ws q i + before p b ws q i
noncomputable def rankN (p b : T) (ws : List T) (q : T) : Nat := rankTo p b ws q q.length

theorem less_le {p : T} (b : T) (ws : List T) (q : T) (i : Nat) (c : UInt8) (h : p.length ≤ 8) : less p b ws q i c ≤ 208827064576 := by
  unfold less
  split
  · exact fromN_le b ws _ h
  · exact Nat.zero_le _
theorem before_le {p : T} (b : T) (ws : List T) (q : T) (i : Nat) (h : p.length ≤ 8) : before p b ws q i ≤ 5429503678976 := by
  unfold before
  have h1 := sum_le ((signsAt (p.getD i 0)).map (less p b ws q i)) 208827064576 (by intro x hx; obtain ⟨c, _, rfl⟩ := List.mem_map.1 hx; exact less_le b ws q i c h)
  rw [List.length_map] at h1
  have h2 := signsAt_length (p.getD i 0)
  omega
theorem rankTo_le {p : T} (b : T) (ws : List T) (q : T) (h : p.length ≤ 8) : ∀ i, rankTo p b ws q i ≤ i * 5429503678976 := by
  intro i
  induction i with
  | zero => exact Nat.le_refl _
  | succ i ih =>
    have := before_le b ws q i h
    rw [rankTo]; omega

/-- over the signs that are allowed -/
theorem before_allowed (p b : T) (ws : List T) (q : T) (i : Nat) : sumK (less p b ws q i) (allowedL b (p.getD i 0)) (allowedL b (p.getD i 0)).length = before p b ws q i := by
  unfold sumK before
  rw [List.take_length]
  unfold allowedL
  rw [sum_filter]
  congr 1
  apply List.map_congr_left
  intro c _
  by_cases h : c ∈ b
  · have : less p b ws q i c = 0 := by
      unfold less
      rw [fromN_barred p b ws _ c h]
      split <;> rfl
    simp [h, this]
  · simp [h]

/-- the first sign at a place -/
def lowAt (x : UInt8) : Nat := if x = 76 then 65 else 48
theorem signs_take (x y : UInt8) (h : y ∈ signsAt x) : (signsAt x).filter (fun c => decide (c.toNat < y.toNat)) = (signsAt x).take (y.toNat - lowAt x) := by
  unfold signsAt lowAt at *
  split at h
  · rename_i e
    rw [if_pos e, if_pos e]
    have : ∀ y ∈ letters, letters.filter (fun c => decide (c.toNat < y.toNat)) = letters.take (y.toNat - 65) := by decide +kernel
    exact this y h
  · rename_i e
    rw [if_neg e, if_neg e]
    have : ∀ y ∈ digits, digits.filter (fun c => decide (c.toNat < y.toNat)) = digits.take (y.toNat - 48) := by decide +kernel
    exact this y h
theorem signs_get (x : UInt8) (k : Nat) (h : k < (signsAt x).length) : ((signsAt x)[k]).toNat = lowAt x + k := by
  unfold signsAt lowAt at *
  split at h
  · rename_i e
    simp only [if_pos e]
    have : ∀ k (h : k < letters.length), (letters[k]).toNat = 65 + k := by decide +kernel
    exact this k h
  · rename_i e
    simp only [if_neg e]
    have : ∀ k (h : k < digits.length), (digits[k]).toNat = 48 + k := by decide +kernel
    exact this k h
theorem signs_low (x y : UInt8) (h : y ∈ signsAt x) : lowAt x ≤ y.toNat ∧ y.toNat < lowAt x + (signsAt x).length ∧ y.toNat ≤ 90 := by
  unfold signsAt lowAt at *
  split at h
  · rename_i e
    rw [if_pos e, if_pos e]
    have := (mem_letters y).1 h
    have h2 : letters.length = 26 := rfl
    omega
  · rename_i e
    rw [if_neg e, if_neg e]
    have := (mem_digits y).1 h
    have h2 : digits.length = 10 := rfl
    omega

/-- over the signs before the plate's own -/
theorem before_low (p b : T) (ws : List T) (q : T) (i : Nat) (h : q.getD i 0 ∈ signsAt (p.getD i 0)) : sumK (fun c => fromN p b ws (q.take i ++ [c])) (signsAt (p.getD i 0)) ((q.getD i 0).toNat - lowAt (p.getD i 0)) = before p b ws q i := by
  unfold sumK before
  rw [← signs_take _ _ h, sum_filter]
  congr 1
  apply List.map_congr_left
  intro c _
  unfold less
  by_cases g : c.toNat < (q.getD i 0).toNat <;> simp [g]

/-! ### which one comes behind so many -/
/-- the first sign with more plates than are left to pass -/
def pick (F : UInt8 → Nat) : T → Nat → Option UInt8 × Nat
  | [], r => (none, r)
  | c :: l, r => if r < F c then (some c, r) else pick F l (r - F c)
theorem pick_nil (F : UInt8 → Nat) (r : Nat) : pick F [] r = (none, r) := rfl
theorem pick_drop (F : UInt8 → Nat) (l : T) (k r : Nat) (h : k < l.length) : pick F (l.drop k) r = if r < F l[k] then (some l[k], r) else pick F (l.drop (k + 1)) (r - F l[k]) := by
  rw [List.drop_eq_getElem_cons h, pick]
theorem pick_le (F : UInt8 → Nat) : ∀ (l : T) (r : Nat), (pick F l r).2 ≤ r := by
  intro l
  induction l with
  | nil => intro r; exact Nat.le_refl _
  | cons c l ih =>
    intro r
    rw [pick]
    split
    · exact Nat.le_refl _
    · exact Nat.le_trans (ih _) (Nat.sub_le _ _)
theorem pick_mem (F : UInt8 → Nat) : ∀ (l : T) (r : Nat) (c : UInt8), (pick F l r).1 = some c → c ∈ l := by
  intro l
  induction l with
  | nil => intro r c h; cases h
  | cons x l ih =>
    intro r c h
    rw [pick] at h
    split at h
    · obtain rfl := Option.some.inj h
      exact List.mem_cons_self ..
    · exact List.mem_cons_of_mem _ (ih _ _ h)
theorem pick_filter (F : UInt8 → Nat) (b : T) (h : ∀ c ∈ b, F c = 0) : ∀ (l : T) (r : Nat), pick F (l.filter fun c => decide (c ∉ b)) r = pick F l r := by
  intro l
  induction l with
  | nil => intro r; rfl
  | cons x l ih =>
    intro r
    by_cases g : x ∈ b
    · rw [List.filter_cons_of_neg (by simp [g]), ih, pick, h x g, if_neg (Nat.not_lt_zero _), Nat.sub_zero]
    · rw [List.filter_cons_of_pos (by simp [g]), pick, pick]
      split
      · rfl
      · exact ih _

/-- one place more -/
noncomputable def step (p b : T) (ws : List T) (x : UInt8) (o : T × Nat) : T × Nat :=
  match (pick (fun c => fromN p b ws (o.1 ++ [c])) (signsAt x) o.2).1 with
  | some c => (o.1 ++ [c], (pick (fun c => fromN p b ws (o.1 ++ [c])) (signsAt x) o.2).2)
  | none => (o.1, (pick (fun c => fromN p b ws (o.1 ++ [c])) (signsAt x) o.2).2)
noncomputable def rankedTo (p b : T) (ws : List T) (r : Nat) : Nat → T × Nat
  | 0 => ([], r)
  | i + 1 => step p b ws (p.getD i 0) (rankedTo p b ws r i)
noncomputable def rankedN (p b : T) (ws : List T) (r : Nat) : T := (rankedTo p b ws r p.length).1

theorem step_some {p b : T} {ws : List T} {x : UInt8} {o : T} {r r2 : Nat} {c : UInt8} (h : pick (fun c => fromN p b ws (o ++ [c])) (signsAt x) r = (some c, r2)) : step p b ws x (o, r) = (o ++ [c], r2) := by
  unfold step; rw [h]
theorem step_none {p b : T} {ws : List T} {x : UInt8} {o : T} {r r2 : Nat} (h : pick (fun c => fromN p b ws (o ++ [c])) (signsAt x) r = (none, r2)) : step p b ws x (o, r) = (o, r2) := by
  unfold step; rw [h]
theorem step_len (p b : T) (ws : List T) (x : UInt8) (o : T × Nat) : (step p b ws x o).1.length ≤ o.1.length + 1 ∧ (step p b ws x o).2 ≤ o.2 := by
  unfold step
  have h := pick_le (fun c => fromN p b ws (o.1 ++ [c])) (signsAt x) o.2
  split
  · exact ⟨by simp, h⟩
  · exact ⟨by simp, h⟩
theorem rankedTo_len (p b : T) (ws : List T) (r : Nat) : ∀ i, (rankedTo p b ws r i).1.length ≤ i ∧ (rankedTo p b ws r i).2 ≤ r := by
  intro i
  induction i with
  | zero => exact ⟨Nat.le_refl _, Nat.le_refl _⟩
  | succ i ih =>
    rw [rankedTo]
    have := step_len p b ws (p.getD i 0) (rankedTo p b ws r i)
    omega
theorem pick_allowed (p b : T) (ws : List T) (x : UInt8) (o : T) (r : Nat) : pick (fun c => fromN p b ws (o ++ [c])) (allowedL b x) r = pick (fun c => fromN p b ws (o ++ [c])) (signsAt x) r := by
  unfold allowedL
  exact pick_filter _ b (fun c hc => fromN_barred p b ws o c hc) _ _
end Go.Proofs.YtoieadofldkccaaDoor.Plates
