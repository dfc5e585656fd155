/-
  Plates: one more barred sign: the plain law. put b x: x put into the rising b; what slices.Sort and slices.Compact make of b ++ [x] is that.
-/
import Derived.Test.YtoieadofldkccaaDoorHSorts
import Derived.Test.YtoieadofldkccaaDoorHPHarness
namespace Go.Proofs.YtoieadofldkccaaDoor.Plates
open Go.Sort Go.Lib Go.Proofs.YtoieadofldkccaaDoor.Bytes
set_option linter.unusedVariables false

abbrev Up (b : T) : Prop := b.Pairwise fun x y : UInt8 => x.toNat < y.toNat

theorem up_of_rising : ∀ {b : T}, Rising b → Up b
  | [], _ => List.Pairwise.nil
  | [x], _ => by simp [Up]
  | x :: y :: r, h => by
    have h2 : Rising (y :: r) := fun i hi => by
      have := h (i + 1) (by simpa using hi)
      simpa using this
    have ih := up_of_rising h2
    have hxy := h 0 (by simp)
    simp only [List.getElem_cons_zero, List.getElem_cons_succ] at hxy
    refine List.Pairwise.cons (fun z hz => ?_) ih
    rcases List.mem_cons.1 hz with rfl | hz
    · exact hxy
    · exact Nat.lt_trans hxy ((List.pairwise_cons.1 ih).1 z hz)
theorem rising_of_up {b : T} (h : Up b) : Rising b := fun i hi => (List.pairwise_iff_getElem.1 h) i (i + 1) (by omega) hi (Nat.lt_succ_self i)

theorem up_ext : ∀ {l m : T}, Up l → Up m → (∀ x, x ∈ l ↔ x ∈ m) → l = m
  | [], [], _, _, _ => rfl
  | [], y :: m, _, _, h => by have := (h y).2 (by simp); simp at this
  | x :: l, [], _, _, h => by have := (h x).1 (by simp); simp at this
  | x :: l, y :: m, hl, hm, h => by
    obtain ⟨hl1, hl2⟩ := List.pairwise_cons.1 hl
    obtain ⟨hm1, hm2⟩ := List.pairwise_cons.1 hm
    have e : x = y := by
      rcases List.mem_cons.1 ((h x).1 (by simp)) with e | hx
      · exact e
      · rcases List.mem_cons.1 ((h y).2 (by simp)) with e | hy
        · exact e.symm
        · have a1 := hm1 x hx
          have a2 := hl1 y hy
          omega
    subst e
    refine congrArg (x :: ·) (up_ext hl2 hm2 fun z => ⟨fun hz => ?_, fun hz => ?_⟩)
    · rcases List.mem_cons.1 ((h z).1 (by simp [hz])) with rfl | hz2
      · exact absurd (hl1 z hz) (Nat.lt_irrefl _)
      · exact hz2
    · rcases List.mem_cons.1 ((h z).2 (by simp [hz])) with rfl | hz2
      · exact absurd (hm1 z hz) (Nat.lt_irrefl _)
      · exact hz2

/-- x is put into b -/
def put : T → UInt8 → T
  | [], x => [x]
  | y :: r, x => if y.toNat < x.toNat then y :: put r x else x :: y :: r
theorem mem_put : ∀ {b : T} {x z : UInt8}, z ∈ put b x ↔ z = x ∨ z ∈ b
  | [], x, z => by simp [put]
  | y :: r, x, z => by
    unfold put
    by_cases h : y.toNat < x.toNat
    · rw [if_pos h, List.mem_cons, mem_put, List.mem_cons]
      exact ⟨fun h => by rcases h with h | h | h; exact .inr (.inl h); exact .inl h; exact .inr (.inr h), fun h => by rcases h with h | h | h; exact .inr (.inl h); exact .inl h; exact .inr (.inr h)⟩
    · rw [if_neg h, List.mem_cons]
theorem put_up : ∀ {b : T} {x : UInt8}, Up b → x ∉ b → Up (put b x)
  | [], x, _, _ => by simp [put, Up]
  | y :: r, x, h, hx => by
    obtain ⟨h1, h2⟩ := List.pairwise_cons.1 h
    unfold put
    have hne : y.toNat ≠ x.toNat := fun e => hx (by rw [UInt8.toNat_inj.1 e]; simp)
    by_cases hl : y.toNat < x.toNat
    · rw [if_pos hl]
      refine List.Pairwise.cons (fun z hz => ?_) (put_up h2 (fun hh => hx (by simp [hh])))
      rcases mem_put.1 hz with rfl | hz
      · exact hl
      · exact h1 z hz
    · rw [if_neg hl]
      refine List.Pairwise.cons (fun z hz => ?_) h
      rcases List.mem_cons.1 hz with rfl | hz
      · omega
      · have := h1 z hz; omega
theorem put_at : ∀ {b : T} {x : UInt8} (k : Nat), k ≤ b.length → (∀ z ∈ b.take k, z.toNat < x.toNat) → (∀ h : k < b.length, ¬ b[k].toNat < x.toNat) → put b x = b.take k ++ x :: b.drop k
  | [], x, k, hk, _, _ => by simp [put]
  | y :: r, x, 0, _, _, h => by
    have := h (by simp)
    simp only [List.getElem_cons_zero] at this
    unfold put
    rw [if_neg this]
    rfl
  | y :: r, x, k + 1, hk, ht, h => by
    have hy : y.toNat < x.toNat := ht y (by simp)
    unfold put
    rw [if_pos hy, List.take_succ_cons, List.drop_succ_cons, List.cons_append]
    exact congrArg (y :: ·) (put_at k (by simpa using hk) (fun z hz => ht z (by simp [hz])) (fun hh => by have := h (by simpa using hh); simpa using this))

/-- b with x: as it is if x is in it -/
def withX (b : T) (x : UInt8) : T := if x ∈ b then b else put b x
theorem withX_up {b : T} {x : UInt8} (h : Up b) : Up (withX b x) := by
  unfold withX
  by_cases hx : x ∈ b
  · rw [if_pos hx]; exact h
  · rw [if_neg hx]; exact put_up h hx
theorem mem_withX {b : T} {x z : UInt8} : z ∈ withX b x ↔ z = x ∨ z ∈ b := by
  unfold withX
  by_cases hx : x ∈ b
  · rw [if_pos hx]
    exact ⟨.inr, fun h => by rcases h with rfl | h; exact hx; exact h⟩
  · rw [if_neg hx]; exact mem_put

/-! ### at most 36 signs -/
theorem up_nat : ∀ (l : List Nat) (a b : Nat), l.Pairwise (· < ·) → (∀ x ∈ l, a ≤ x ∧ x < b) → l.length ≤ b - a
  | [], _, _, _, _ => Nat.zero_le _
  | x :: l, a, b, h, hb => by
    obtain ⟨h1, h2⟩ := List.pairwise_cons.1 h
    have hx := hb x (by simp)
    have := up_nat l (x + 1) b h2 fun y hy => ⟨h1 y hy, (hb y (by simp [hy])).2⟩
    simp only [List.length_cons]
    omega
def rankS (x : UInt8) : Nat := if x.toNat ≤ 57 then x.toNat - 48 else x.toNat - 55
theorem up_signs {b : T} (h : Up b) (hs : Signs b) : b.length ≤ 36 := by
  have h1 : (b.map rankS).Pairwise (· < ·) := by
    rw [List.pairwise_map]
    refine List.Pairwise.imp_of_mem (fun {x y} hx hy hxy => ?_) h
    have a1 := hs x hx
    have a2 := hs y hy
    unfold Sign at a1 a2
    unfold rankS
    split <;> split <;> omega
  have := up_nat _ 0 36 h1 fun z hz => by
    obtain ⟨x, hx, rfl⟩ := List.mem_map.1 hz
    have a1 := hs x hx
    unfold Sign at a1
    unfold rankS
    split <;> omega
  simpa using this
theorem good_withX {p b : T} {ws : List T} (G : Good p b ws) {x : UInt8} (hx : Sign x) : Good p (withX b x) ws := by
  have hu := withX_up (x := x) (up_of_rising G.br)
  have hs : Signs (withX b x) := fun z hz => by
    rcases mem_withX.1 hz with rfl | h
    · exact hx
    · exact G.bs z h
  exact { G with b36 := up_signs hu hs, bs := hs, br := rising_of_up hu }

/-! ### Sort and Compact -/
theorem compact_facts (d : Array UInt8) (hs : SortedIn ltB 0 d.size d) : ∀ m, m ≤ d.size → Up (compactUpTo d m) ∧ (∀ z ∈ compactUpTo d m, ∀ j, m ≤ j + 1 → j < d.size → z.toNat ≤ d[j]!.toNat) ∧ ∀ z, z ∈ compactUpTo d m ↔ ∃ j, j < m ∧ d[j]! = z
  | 0, _ => ⟨by simp [compactUpTo, Up], fun z hz => by simp [compactUpTo] at hz, fun z => by simp [compactUpTo]⟩
  | m + 1, hm => by
    obtain ⟨h1, h2, h3⟩ := compact_facts d hs m (by omega)
    have hle : ∀ i j, i ≤ j → j < d.size → d[i]!.toNat ≤ d[j]!.toNat := fun i j hij hj => by
      rcases Nat.lt_or_ge i j with h | h
      · have := hs i j (Nat.zero_le _) h hj
        rw [ltB_false] at this; omega
      · have : i = j := by omega
        rw [this]; exact Nat.le_refl _
    rw [compactUpTo_succ]
    by_cases hk : keeps d m = true
    · rw [if_pos hk]
      refine ⟨?_, fun z hz j hj hj2 => ?_, fun z => ?_⟩
      · rw [Up, List.pairwise_append]
        refine ⟨h1, by simp, fun z hz y hy => ?_⟩
        rw [List.mem_singleton] at hy
        subst hy
        have hk2 : m = 0 ∨ d[m]! ≠ d[m - 1]! := by simpa [keeps] using hk
        obtain ⟨i, hi, rfl⟩ := (h3 z).1 hz
        rcases hk2 with h0 | h0
        · omega
        · have a1 := h2 _ hz (m - 1) (by omega) (by omega)
          have a2 := hle (m - 1) m (by omega) (by omega)
          have a3 : d[m]!.toNat ≠ d[m - 1]!.toNat := fun e => h0 (UInt8.toNat_inj.1 e)
          omega
      · rcases List.mem_append.1 hz with hz | hz
        · exact h2 z hz j (by omega) hj2
        · rw [List.mem_singleton] at hz
          subst hz
          exact hle m j (by omega) hj2
      · rw [List.mem_append, h3, List.mem_singleton]
        refine ⟨fun h => ?_, fun ⟨j, hj, e⟩ => ?_⟩
        · rcases h with ⟨j, hj, e⟩ | rfl
          · exact ⟨j, by omega, e⟩
          · exact ⟨m, by omega, rfl⟩
        · rcases Nat.lt_or_ge j m with h | h
          · exact .inl ⟨j, h, e⟩
          · have : j = m := by omega
            subst this
            exact .inr e.symm
    · rw [if_neg hk, List.append_nil]
      have hk2 : ¬ (m = 0 ∨ d[m]! ≠ d[m - 1]!) := by simpa [keeps] using hk
      have hm0 : m ≠ 0 := fun e => hk2 (.inl e)
      have he : d[m]! = d[m - 1]! := Classical.byContradiction fun e => hk2 (.inr e)
      refine ⟨h1, fun z hz j hj hj2 => h2 z hz j (by omega) hj2, fun z => ?_⟩
      rw [h3]
      refine ⟨fun ⟨j, hj, e⟩ => ⟨j, by omega, e⟩, fun ⟨j, hj, e⟩ => ?_⟩
      rcases Nat.lt_or_ge j m with h | h
      · exact ⟨j, h, e⟩
      · have : j = m := by omega
        subst this
        exact ⟨j - 1, by omega, by rw [← he]; exact e⟩

theorem bar_compact {b : T} {x : UInt8} {d d' : Array UInt8} (hb : Up b) (hd : d.toList = b ++ [x]) (hp : PermIn 0 d.size d d') (hs : SortedIn ltB 0 d.size d') : compactUpTo d' d'.size = withX b x := by
  have e : d'.size = d.size := hp.1
  rw [← e] at hs
  obtain ⟨h1, _, h3⟩ := compact_facts d' hs d'.size (Nat.le_refl _)
  refine up_ext h1 (withX_up hb) fun z => ?_
  have hpm : d'.toList.Perm d.toList := by
    have := hp.2.2
    rw [← e, Array.extract_eq_self_of_le (Nat.le_refl _), e, Array.extract_eq_self_of_le (Nat.le_refl _)] at this
    exact this
  rw [h3, mem_withX]
  have hm : (∃ j, j < d'.size ∧ d'[j]! = z) ↔ z ∈ d'.toList := by
    rw [Array.mem_toList_iff, Array.mem_iff_getElem]
    exact ⟨fun ⟨j, hj, e⟩ => ⟨j, hj, by rw [← e, getElem!_pos d' j hj]⟩, fun ⟨j, hj, e⟩ => ⟨j, hj, by rw [getElem!_pos d' j hj, e]⟩⟩
  rw [hm, hpm.mem_iff, hd, List.mem_append, List.mem_singleton]
  exact ⟨fun h => h.symm, fun h => h.symm⟩
end Go.Proofs.YtoieadofldkccaaDoor.Plates
