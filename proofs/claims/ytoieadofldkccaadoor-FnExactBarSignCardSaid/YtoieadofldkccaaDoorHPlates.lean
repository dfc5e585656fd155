/-
  Plates: how many texts go on behind a beginning without a barred sign and without a word; what stands at the end of a text tells all that matters of it.
-/
import Derived.Test.YtoieadofldkccaaDoorProg
namespace Go.Proofs.YtoieadofldkccaaDoor.Plates
set_option linter.unusedVariables false
set_option linter.unusedSimpArgs false

abbrev T := List UInt8

def digits : T := [48, 49, 50, 51, 52, 53, 54, 55, 56, 57]
def letters : T := [65, 66, 67, 68, 69, 70, 71, 72, 73, 74, 75, 76, 77, 78, 79, 80, 81, 82, 83, 84, 85, 86, 87, 88, 89, 90]
def signsAt (x : UInt8) : T := if x = 76 then letters else digits

/-- no word stands in a text -/
def Clean (ws : List T) (t : T) : Prop := ∀ w ∈ ws, ¬ w <:+: t

/-- a word begins with it, and goes on -/
def Begins (ws : List T) (t : T) : Prop := ∃ w ∈ ws, t <+: w ∧ t.length < w.length

open Classical in
/-- the longest end with which a word begins, without being it -/
noncomputable def st (ws : List T) : T → T
  | [] => []
  | c :: t => if Begins ws (c :: t) then c :: t else st ws t

open Classical in
/-- in how many ways a text goes on -/
noncomputable def cnt (b : T) (ws : List T) : T → T → Nat
  | [], _ => 1
  | x :: ps, t => ((signsAt x).map fun c => if c ∉ b ∧ Clean ws (t ++ [c]) then cnt b ws ps (t ++ [c]) else 0).sum

theorem st_suffix (ws : List T) (t : T) : st ws t <:+ t := by
  induction t with
  | nil => exact List.suffix_refl _
  | cons c t ih =>
    rw [st]
    split
    · exact List.suffix_refl _
    · exact ih.trans (List.suffix_cons c t)

theorem st_longest {ws : List T} {t s : T} (h : s <:+ t) (hb : Begins ws s) : s <:+ st ws t := by
  induction t with
  | nil =>
    have := List.suffix_nil.1 h
    subst this
    exact List.nil_suffix
  | cons c t ih =>
    rw [st]
    split
    · exact h
    · rename_i hn
      rcases List.suffix_cons_iff.1 h with e | h
      · subst e; exact absurd hb hn
      · exact ih h

theorem st_begins (ws : List T) (t : T) : st ws t = [] ∨ Begins ws (st ws t) := by
  induction t with
  | nil => exact .inl rfl
  | cons c t ih =>
    rw [st]
    split
    · exact .inr ‹_›
    · exact ih

theorem Clean.suffix {ws : List T} {t s : T} (h : Clean ws t) (hs : s <:+ t) : Clean ws s := fun w hw hi => h w hw (hi.trans hs.isInfix)
theorem Clean.prefix {ws : List T} {t s : T} (h : Clean ws t) (hs : s <+: t) : Clean ws s := fun w hw hi => h w hw (hi.trans hs.isInfix)

/-- what comes behind tells the same of both -/
def Same (ws : List T) (t s : T) : Prop := ∀ u, Clean ws (t ++ u) ↔ Clean ws (s ++ u)

theorem suffix_append_right {s t : T} (h : s <:+ t) (u : T) : s ++ u <:+ t ++ u := by
  obtain ⟨a, rfl⟩ := h
  exact ⟨a, by rw [List.append_assoc]⟩

theorem same_st {ws : List T} (t : T) (hc : Clean ws t) : Same ws t (st ws t) := by
  intro u
  constructor
  · intro h
    exact h.suffix (suffix_append_right (st_suffix ws t) u)
  · intro h w hw hi
    obtain ⟨a, b, e⟩ := hi
    -- t ++ u = a ++ w ++ b
    rcases Nat.lt_or_ge a.length t.length with la | la
    · have ha : a = t.take a.length := by
        have := congrArg (List.take a.length) e
        rw [List.append_assoc, List.take_left', List.take_append_of_le_length (Nat.le_of_lt la)] at this
        · exact this
        · rfl
      have hd : w ++ b = t.drop a.length ++ u := by
        have := congrArg (List.drop a.length) e
        rw [List.append_assoc, List.drop_left', List.drop_append_of_le_length (Nat.le_of_lt la)] at this
        · exact this
        · rfl
      rcases Nat.lt_or_ge (t.drop a.length).length w.length with lw | lw
      · -- the word stands on both
        obtain ⟨v, hv⟩ : ∃ v, w = t.drop a.length ++ v := by
          have : t.drop a.length <+: w := List.prefix_of_prefix_length_le (l₃ := w ++ b) (by rw [hd]; exact List.prefix_append _ _) (List.prefix_append _ _) (Nat.le_of_lt lw)
          obtain ⟨v, hv⟩ := this
          exact ⟨v, hv.symm⟩
        have hu : v ++ b = u := by
          rw [hv, List.append_assoc] at hd
          exact List.append_cancel_left hd
        have hs : t.drop a.length <:+ st ws t := st_longest (List.drop_suffix _ _) ⟨w, hw, ⟨v, hv.symm⟩, lw⟩
        obtain ⟨c, hcc⟩ := hs
        refine h w hw ⟨c, b, ?_⟩
        rw [← hcc, ← hu, hv]; simp [List.append_assoc]
      · -- the word stands in t
        refine hc w hw ?_
        have : w <+: t.drop a.length := List.prefix_of_prefix_length_le (l₃ := w ++ b) (List.prefix_append _ _) (by rw [hd]; exact List.prefix_append _ _) lw
        exact this.isInfix.trans (List.drop_suffix _ _).isInfix
    · -- the word stands in u
      refine h w hw ?_
      have hd : ∃ c, u = c ++ w ++ b := by
        refine ⟨a.drop t.length, ?_⟩
        have := congrArg (List.drop t.length) e
        rw [List.append_assoc, List.drop_append_of_le_length la, List.drop_left' rfl] at this
        rw [← this, List.append_assoc]
      obtain ⟨c, hcu⟩ := hd
      exact ⟨st ws t ++ c, b, by rw [hcu]; simp [List.append_assoc]⟩

theorem cnt_same {b : T} {ws : List T} : ∀ (ps t s : T), Same ws t s → cnt b ws ps t = cnt b ws ps s := by
  intro ps
  induction ps with
  | nil => intro t s _; rfl
  | cons x ps ih =>
    intro t s h
    rw [cnt, cnt]
    congr 1
    apply List.map_congr_left
    intro c _
    have h1 := h [c]
    have h2 := ih (t ++ [c]) (s ++ [c]) (fun u => by rw [List.append_assoc, List.append_assoc]; exact h ([c] ++ u))
    rw [h2]
    by_cases g : c ∉ b ∧ Clean ws (t ++ [c])
    · rw [if_pos g, if_pos ⟨g.1, h1.1 g.2⟩]
    · rw [if_neg g, if_neg (fun k => g ⟨k.1, h1.2 k.2⟩)]

theorem cnt_st {b : T} {ws : List T} (ps t : T) (h : Clean ws t) : cnt b ws ps t = cnt b ws ps (st ws t) := cnt_same ps t _ (same_st t h)

theorem signsAt_length (x : UInt8) : (signsAt x).length ≤ 26 := by unfold signsAt; split <;> decide

theorem sum_le (l : List Nat) (M : Nat) (h : ∀ x ∈ l, x ≤ M) : l.sum ≤ l.length * M := by
  induction l with
  | nil => simp
  | cons a l ih =>
    have h1 := h a (List.mem_cons_self ..)
    have h2 := ih (fun x hx => h x (List.mem_cons_of_mem _ hx))
    rw [List.sum_cons, List.length_cons, Nat.succ_mul]; omega

open Classical in
theorem cnt_le (b : T) (ws : List T) : ∀ (ps t : T), cnt b ws ps t ≤ 26 ^ ps.length := by
  intro ps
  induction ps with
  | nil => intro t; rw [cnt]; exact Nat.le_refl _
  | cons x ps ih =>
    intro t
    rw [cnt]
    have h1 := sum_le ((signsAt x).map fun c => if c ∉ b ∧ Clean ws (t ++ [c]) then cnt b ws ps (t ++ [c]) else 0) (26 ^ ps.length) (by
      intro y hy
      obtain ⟨c, _, rfl⟩ := List.mem_map.1 hy
      split
      · exact ih _
      · exact Nat.zero_le _)
    rw [List.length_map] at h1
    have h2 : (signsAt x).length * 26 ^ ps.length ≤ 26 * 26 ^ ps.length := Nat.mul_le_mul_right _ (signsAt_length x)
    rw [List.length_cons, Nat.pow_succ]; omega

theorem cnt_bound (b : T) (ws : List T) (ps t : T) (h : ps.length ≤ 8) : cnt b ws ps t ≤ 208827064576 := by
  have h1 := cnt_le b ws ps t
  have h2 : 26 ^ ps.length ≤ 26 ^ 8 := Nat.pow_le_pow_right (by omega) h
  have h3 : 26 ^ 8 = 208827064576 := by decide
  omega
end Go.Proofs.YtoieadofldkccaaDoor.Plates
