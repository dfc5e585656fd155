/-
  Plates: the list of beginnings of words, the place of a text in it, membership.
-/
import Derived.Test.YtoieadofldkccaaDoorHPBase
namespace Go.Proofs.YtoieadofldkccaaDoor.Plates
open Go.RowKit Go.Proofs.YtoieadofldkccaaDoorW.PrintWords Go.Proofs.YtoieadofldkccaaDoorW.PrintLast Go.Proofs.YtoieadofldkccaaDoorW.PrintMore Go.Proofs.YtoieadofldkccaaDoor.PFnExactCountBeginning
set_option linter.unusedVariables false
set_option linter.unusedSimpArgs false

theorem l1HasS_l0 (S : List T) (t : T) (hl : S.length ≤ 4000000) : ∀ (r i k : Nat), i + r = S.length → r < k → t ∉ S.take i → spec_l1HasS.l0 k (str t) (S.map str) S.length i = some (decide (t ∈ S)) := by
  intro r
  induction r with
  | zero =>
    intro i k hi hk hn
    obtain ⟨k, rfl⟩ : ∃ j, k = j + 1 := ⟨k - 1, by omega⟩
    rw [List.take_of_length_le (by omega)] at hn
    rw [spec_l1HasS.l0, if_neg (by omega), decide_eq_false hn]
  | succ r ih =>
    intro i k hi hk hn
    obtain ⟨k, rfl⟩ : ∃ j, k = j + 1 := ⟨k - 1, by omega⟩
    have hlt : i < S.length := by omega
    rw [spec_l1HasS.l0, if_pos (by omega), if_pos (by omega), List.length_map, if_pos (by omega), rdOf_map S i hlt, toList_str, toList_str]
    by_cases g : S[i] = t
    · rw [if_pos g, decide_eq_true (g ▸ List.getElem_mem hlt)]
    · rw [if_neg g, wi (by omega) (by omega), show (i : Int) + 1 = ((i + 1 : Nat) : Int) by omega]
      refine ih (i + 1) k (by omega) (by omega) (fun hm => ?_)
      rw [List.take_succ_eq_append_getElem hlt] at hm
      rcases List.mem_append.1 hm with hm | hm
      · exact hn hm
      · exact g (List.mem_singleton.1 hm).symm

theorem l1HasS_eq (S : List T) (t : T) (hl : S.length ≤ 4000000) (k : Nat) (hk : S.length < k) : spec_l1HasS.f k (S.map str) (str t) = some (decide (t ∈ S)) := by
  unfold spec_l1HasS.f
  rw [List.length_map]
  exact l1HasS_l0 S t hl S.length 0 k (by omega) hk (by simp)

theorem plIndex_l0 (S : List T) (t : T) (hl : S.length ≤ 4000000) (ht : t ∈ S) : ∀ (r i k : Nat), i + r = S.length → r < k → t ∉ S.take i → ∃ (j : Nat) (hj : j < S.length), S[j] = t ∧ spec_plIndex.l0 k (str t) (S.map str) S.length i = some (j : Int) := by
  intro r
  induction r with
  | zero =>
    intro i k hi hk hn
    rw [List.take_of_length_le (by omega)] at hn
    exact absurd ht hn
  | succ r ih =>
    intro i k hi hk hn
    obtain ⟨k, rfl⟩ : ∃ j, k = j + 1 := ⟨k - 1, by omega⟩
    have hlt : i < S.length := by omega
    rw [spec_plIndex.l0, if_pos (by omega), if_pos (by omega), List.length_map, if_pos (by omega), rdOf_map S i hlt, toList_str, toList_str]
    by_cases g : S[i] = t
    · rw [if_pos g]; exact ⟨i, hlt, g, rfl⟩
    · rw [if_neg g, wi (by omega) (by omega), show (i : Int) + 1 = ((i + 1 : Nat) : Int) by omega]
      refine ih (i + 1) k (by omega) (by omega) (fun hm => ?_)
      rw [List.take_succ_eq_append_getElem hlt] at hm
      rcases List.mem_append.1 hm with hm | hm
      · exact hn hm
      · exact g (List.mem_singleton.1 hm).symm

theorem plIndex_eq (S : List T) (t : T) (hl : S.length ≤ 4000000) (ht : t ∈ S) (k : Nat) (hk : S.length < k) : ∃ (j : Nat) (hj : j < S.length), S[j] = t ∧ spec_plIndex.f k (S.map str) (str t) = some (j : Int) := by
  unfold spec_plIndex.f
  rw [List.length_map]
  exact plIndex_l0 S t hl ht S.length 0 k (by omega) hk (by simp)

theorem rd_nat (l : List Int) (i : Nat) (h : i < l.length) : rd l (i : Int) = l[i] := by
  unfold rd; rw [Int.toNat_natCast, List.getD_eq_getElem?_getD, List.getElem?_eq_getElem h]; rfl

/-! ### the list of beginnings -/
theorem plStates_l1 (ws : List T) (w : T) (hw : w.length ≤ 4) (i : Int) : ∀ (r j : Nat) (S : List T), j + r = w.length → 1 ≤ j → S.length + r ≤ 100 →
    ∃ S' : List T, (∀ s ∈ S', s ∈ S ∨ s <+: w) ∧ (∀ s ∈ S, s ∈ S') ∧ S'.length ≤ S.length + r ∧ (∀ m, j ≤ m → m < w.length → w.take m ∈ S') ∧ ∀ k, r + 200 < k → spec_plStates.l1 k (S.map str) (str w) j (ws.map str) ws.length i = spec_plStates.l0 (k - (r + 1)) (S'.map str) (ws.map str) ws.length (wrap64 (i + 1)) := by
  intro r
  induction r with
  | zero =>
    intro j S hj j1 hS
    refine ⟨S, fun s h => .inl h, fun s h => h, Nat.le_refl _, fun m a b => by omega, fun k hk => ?_⟩
    obtain ⟨k, rfl⟩ : ∃ j, k = j + 1 := ⟨k - 1, by omega⟩
    rw [spec_plStates.l1, str_size, if_neg (by omega), show k + 1 - (0 + 1) = k by omega]
  | succ r ih =>
    intro j S hj j1 hS
    by_cases g : w.take j ∈ S
    · obtain ⟨S', z, a, b, c, d⟩ := ih (j + 1) S (by omega) (by omega) (by omega)
      refine ⟨S', z, a, by omega, fun m x y => ?_, fun k hk => ?_⟩
      · by_cases e : m = j
        · subst e; exact a _ g
        · exact c m (by omega) y
      · obtain ⟨k, rfl⟩ : ∃ j, k = j + 1 := ⟨k - 1, by omega⟩
        rw [spec_plStates.l1, str_size, if_pos (by omega), if_pos (by omega), if_pos (by omega), Int.toNat_natCast, extract_str, List.drop_zero, Nat.sub_zero, l1HasS_eq S _ (by omega) k (by omega)]
        simp only [Option.bind_some, decide_eq_true_eq]
        rw [if_pos g, wi (by omega) (by omega), show (j : Int) + 1 = ((j + 1 : Nat) : Int) by omega, d k (by omega), show k + 1 - (r + 1 + 1) = k - (r + 1) by omega]
    · obtain ⟨S', z, a, b, c, d⟩ := ih (j + 1) (S ++ [w.take j]) (by omega) (by omega) (by rw [List.length_append, List.length_singleton]; omega)
      refine ⟨S', fun s h => (z s h).elim (fun h => (List.mem_append.1 h).elim .inl (fun h => .inr (by rw [List.mem_singleton.1 h]; exact List.take_prefix _ _))) .inr, fun s h => a s (List.mem_append_left _ h), by rw [List.length_append, List.length_singleton] at b; omega, fun m x y => ?_, fun k hk => ?_⟩
      · by_cases e : m = j
        · subst e; exact a _ (by simp)
        · exact c m (by omega) y
      · obtain ⟨k, rfl⟩ : ∃ j, k = j + 1 := ⟨k - 1, by omega⟩
        rw [spec_plStates.l1, str_size, if_pos (by omega), if_pos (by omega), if_pos (by omega), Int.toNat_natCast, extract_str, List.drop_zero, Nat.sub_zero, l1HasS_eq S _ (by omega) k (by omega)]
        simp only [Option.bind_some, decide_eq_true_eq]
        rw [if_neg g, List.length_map, if_pos (by omega), wi (by omega) (by omega), show (j : Int) + 1 = ((j + 1 : Nat) : Int) by omega]
        rw [List.map_append] at d
        rw [show k + 1 - (r + 1 + 1) = k - (r + 1) by omega]
        exact d k (by omega)

theorem plStates_l0 (ws : List T) (hl : ws.length ≤ 3) (hw : ∀ w ∈ ws, w.length ≤ 4 ∧ 1 ≤ w.length) : ∀ (r i : Nat) (S : List T), i + r = ws.length → S.length + 4 * r ≤ 50 →
    ∃ S' : List T, (∀ s ∈ S', s ∈ S ∨ ∃ w ∈ ws, s <+: w) ∧ (∀ s ∈ S, s ∈ S') ∧ S'.length ≤ S.length + 4 * r ∧ (∀ w ∈ ws.drop i, ∀ m, 1 ≤ m → m < w.length → w.take m ∈ S') ∧ ∀ k, 1000 + 10 * r < k → spec_plStates.l0 k (S.map str) (ws.map str) ws.length i = some (S'.map str) := by
  intro r
  induction r with
  | zero =>
    intro i S hi hS
    refine ⟨S, fun s h => .inl h, fun s h => h, by omega, fun w hm => by rw [List.drop_eq_nil_of_le (by omega)] at hm; simp at hm, fun k hk => ?_⟩
    obtain ⟨k, rfl⟩ : ∃ j, k = j + 1 := ⟨k - 1, by omega⟩
    rw [spec_plStates.l0, if_neg (by omega)]
  | succ r ih =>
    intro i S hi hS
    have hlt : i < ws.length := by omega
    have h4 := hw _ (List.getElem_mem hlt)
    obtain ⟨S1, z, a, b, c, d⟩ := plStates_l1 ws ws[i] h4.1 i (ws[i].length - 1) 1 S (by omega) (by omega) (by omega)
    obtain ⟨S2, z2, a2, b2, c2, d2⟩ := ih (i + 1) S1 (by omega) (by omega)
    refine ⟨S2, fun s h => (z2 s h).elim (fun h => (z s h).elim .inl (fun h => .inr ⟨_, List.getElem_mem hlt, h⟩)) .inr, fun s h => a2 s (a s h), by omega, fun w hm => ?_, fun k hk => ?_⟩
    · rw [List.drop_eq_getElem_cons hlt] at hm
      rcases List.mem_cons.1 hm with rfl | hm
      · exact fun m x y => a2 _ (c m x y)
      · exact c2 w hm
    · obtain ⟨k, rfl⟩ : ∃ j, k = j + 1 := ⟨k - 1, by omega⟩
      have e := d k (by omega)
      rw [show ((1 : Nat) : Int) = 1 from rfl] at e
      rw [spec_plStates.l0, if_pos (by omega), if_pos (by omega), List.length_map, if_pos (by omega), rdOf_map ws i hlt, e, wi (by omega) (by omega), show (i : Int) + 1 = ((i + 1 : Nat) : Int) by omega, d2 _ (by omega)]

theorem plStates_eq (p b : ByteArray) (ws : List T) (hl : ws.length ≤ 3) (hw : ∀ w ∈ ws, w.length ≤ 4 ∧ 1 ≤ w.length) :
    ∃ S : List T, (∀ s ∈ S, s = [] ∨ ∃ w ∈ ws, s <+: w) ∧ [] ∈ S ∧ S.length ≤ 13 ∧ (∀ t, Begins ws t → t ∈ S) ∧ ∀ k, 2000 < k → spec_plStates.f k p b (ws.map str) = some (S.map str) := by
  obtain ⟨S, z, a, bb, c, d⟩ := plStates_l0 ws hl hw ws.length 0 [[]] (by omega) (by simp; omega)
  have h0 : [] ∈ S := a [] (by simp)
  refine ⟨S, fun s h => (z s h).elim (fun h => .inl (List.mem_singleton.1 h)) .inr, h0, by simp at bb; omega, fun t ht => ?_, fun k hk => ?_⟩
  · obtain ⟨w, hm, hp, hlt⟩ := ht
    by_cases e : t = []
    · rw [e]; exact h0
    · have := c w (by simpa using hm) t.length (by have := List.length_pos_iff.2 e; omega) hlt
      rwa [← List.prefix_iff_eq_take.1 hp] at this
  · unfold spec_plStates.f
    rw [List.length_map]
    exact d k (by omega)

theorem st_mem {ws : List T} {S : List T} (h0 : [] ∈ S) (hb : ∀ t, Begins ws t → t ∈ S) (t : T) : st ws t ∈ S := by
  rcases st_begins ws t with e | h
  · rw [e]; exact h0
  · exact hb _ h

/-! ### a byte in a list -/
/-- bytes as numbers -/
abbrev nums (l : T) : List Int := l.map fun c => (c.toNat : Int)

theorem index_l0 (l : T) (c : UInt8) (hl : l.length ≤ 4000000) : ∀ (r i k : Nat), i + r = l.length → r < k → c ∉ l.take i → ∃ v : Int, slices_Index_byte_byte.l0 k (nums l) (c.toNat : Int) l.length i = some v ∧ (0 ≤ v ↔ c ∈ l) := by
  intro r
  induction r with
  | zero =>
    intro i k hi hk hn
    obtain ⟨k, rfl⟩ : ∃ j, k = j + 1 := ⟨k - 1, by omega⟩
    rw [List.take_of_length_le (by omega)] at hn
    rw [slices_Index_byte_byte.l0, if_neg (by omega)]
    exact ⟨-1, rfl, fun h => by omega, fun h => absurd h hn⟩
  | succ r ih =>
    intro i k hi hk hn
    obtain ⟨k, rfl⟩ : ∃ j, k = j + 1 := ⟨k - 1, by omega⟩
    have hlt : i < l.length := by omega
    have e : rd (nums l) (i : Int) = (l[i].toNat : Int) := by rw [rd_nat _ _ (by simpa using hlt)]; simp
    rw [slices_Index_byte_byte.l0, if_pos (by omega), if_pos (by omega), List.length_map, if_pos (by omega), e]
    by_cases g : c = l[i]
    · rw [if_pos (by rw [g])]
      exact ⟨i, rfl, fun _ => g ▸ List.getElem_mem hlt, fun _ => by omega⟩
    · rw [if_neg (fun x => g (UInt8.toNat_inj.1 (by omega))), wi (by omega) (by omega), show (i : Int) + 1 = ((i + 1 : Nat) : Int) by omega]
      refine ih (i + 1) k (by omega) (by omega) (fun hm => ?_)
      rw [List.take_succ_eq_append_getElem hlt] at hm
      rcases List.mem_append.1 hm with hm | hm
      · exact hn hm
      · exact g (List.mem_singleton.1 hm)

theorem contains_eq (l : T) (c : UInt8) (hl : l.length ≤ 4000000) (k : Nat) (hk : l.length < k) : slices_Contains_byte_byte.f k (nums l) (c.toNat : Int) = some (decide (c ∈ l)) := by
  unfold slices_Contains_byte_byte.f slices_Index_byte_byte.f
  obtain ⟨v, e, h⟩ := index_l0 l c hl l.length 0 k (by omega) hk (by simp)
  rw [List.length_map]
  rw [show ((0 : Nat) : Int) = 0 from rfl] at e
  rw [e]
  simp only [Option.bind_some, Option.some.injEq, decide_eq_decide]
  exact h
end Go.Proofs.YtoieadofldkccaaDoor.Plates
