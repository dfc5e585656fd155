/-
  Plates: the laws' own functions over schemes: size, copy, equality.
-/
import Derived.Test.YtoieadofldkccaaDoorHPScheme
namespace Go.Proofs.YtoieadofldkccaaDoor.Plates
open Go.RowKit Go.Proofs.YtoieadofldkccaaDoorW.PrintWords Go.Proofs.YtoieadofldkccaaDoorW.PrintLast Go.Proofs.YtoieadofldkccaaDoorW.PrintMore Go.Proofs.YtoieadofldkccaaDoor.PFnExactCountBeginning
set_option linter.unusedVariables false
set_option linter.unusedSimpArgs false


theorem szS_l0 (l : List T) (hl : l.length ≤ 4000000) (hs : ∀ x ∈ l, x.length ≤ 9223372036854775807) : ∀ (r i k : Nat) (x1 : Int), i + r = l.length → r < k → 0 ≤ x1 → x1 ≤ 1048576 →
    ∃ v : Int, laws_szStringS.l0 k (l.map str) x1 i = some v ∧ (0 ≤ v → v ≤ x1 ∧ ∀ x ∈ l.drop i, x.length ≤ 1048576) := by
  intro r
  induction r with
  | zero =>
    intro i k x1 hi hk h0 h1
    obtain ⟨k, rfl⟩ : ∃ j, k = j + 1 := ⟨k - 1, by omega⟩
    refine ⟨x1, by rw [laws_szStringS.l0, List.length_map, if_neg (by omega)], fun _ => ⟨Int.le_refl _, fun x hx => ?_⟩⟩
    rw [List.drop_eq_nil_of_le (by omega)] at hx
    simp at hx
  | succ r ih =>
    intro i k x1 hi hk h0 h1
    obtain ⟨k, rfl⟩ : ∃ j, k = j + 1 := ⟨k - 1, by omega⟩
    have hlt : i < l.length := by omega
    have hx := hs _ (List.getElem_mem hlt)
    rw [laws_szStringS.l0, List.length_map, if_pos (by omega), if_pos (by omega), rdOf_map l i hlt, str_size, wi (by omega) (by omega)]
    by_cases hneg : x1 - (l[i].length : Int) < 0
    · exact ⟨-1, by rw [if_pos hneg], fun h => by omega⟩
    · rw [if_neg hneg, wi (by omega) (by omega), show (i : Int) + 1 = ((i + 1 : Nat) : Int) by omega]
      obtain ⟨v, e, hv⟩ := ih (i + 1) k (x1 - l[i].length) (by omega) (by omega) (by omega) (by omega)
      refine ⟨v, e, fun h => ⟨by have := (hv h).1; omega, fun x hx => ?_⟩⟩
      rw [List.drop_eq_getElem_cons hlt] at hx
      rcases List.mem_cons.1 hx with rfl | hx
      · omega
      · exact (hv h).2 x hx

theorem szScheme_any {p b : T} {ws : List T} {A : Option Addr} {c : Nat} (hp : p.length ≤ 9223372036854775807) (hb : b.length ≤ 9223372036854775807) (hl : ws.length ≤ 9223372036854775807) (hw : ∀ x ∈ ws, x.length ≤ 9223372036854775807) (w : World) (ht : Texts w A c ws) :
    Calls Tryd.prog 14 #[.agg #[.string (str p), .string (str b), .slice A ws.length c], .int .i64 1048576] w fun e w' => ∃ v : Int, e = .returned (.int .i64 v) ∧ (0 ≤ v → p.length ≤ 1048576 ∧ b.length ≤ 1048576 ∧ ws.length ≤ 1048576 ∧ ∀ x ∈ ws, x.length ≤ 1048576) ∧ Below w.heap.size w w' := by
  have key : ∃ v : Int, laws_szScheme.f (ws.length + 1) (str p) (str b) (ws.map str) 1048576 = some v ∧ (0 ≤ v → p.length ≤ 1048576 ∧ b.length ≤ 1048576 ∧ ws.length ≤ 1048576 ∧ ∀ x ∈ ws, x.length ≤ 1048576) := by
    unfold laws_szScheme.f
    rw [str_size, str_size, wi (by omega) (by omega)]
    by_cases h1 : (1048576 : Int) - p.length < 0
    · exact ⟨-1, by rw [if_pos h1], fun h => by omega⟩
    rw [if_neg h1, wi (by omega) (by omega)]
    by_cases h2 : (1048576 : Int) - p.length - b.length < 0
    · exact ⟨-1, by rw [if_pos h2], fun h => by omega⟩
    rw [if_neg h2]
    unfold laws_szStringS.f
    rw [List.length_map, wi (by omega) (by omega)]
    by_cases h3 : (1048576 : Int) - p.length - b.length - ws.length < 0
    · exact ⟨-1, by rw [if_pos h3]; rfl, fun h => by omega⟩
    rw [if_neg h3]
    obtain ⟨v, e, hv⟩ := szS_l0 ws (by omega) hw ws.length 0 (ws.length + 1) ((1048576 : Int) - p.length - b.length - ws.length) (by omega) (by omega) (by omega) (by omega)
    rw [show (0 : Int) = ((0 : Nat) : Int) from rfl, e, Option.bind_some]
    by_cases h4 : v < ((0 : Nat) : Int)
    · exact ⟨-1, by rw [if_pos h4], fun h => by omega⟩
    · exact ⟨v, by rw [if_neg h4], fun h => ⟨by omega, by omega, by omega, by have := (hv h).2; rwa [List.drop_zero] at this⟩⟩
  obtain ⟨v, e, hv⟩ := key
  have h := laws_szScheme.calls (ws.length + 1) (str p) (str b) A c (ws.map str) 1048576 v w ht.1 ht.2 e
  rw [List.length_map] at h
  refine h.mono ?_
  rintro e w' ⟨rfl, hb⟩
  exact ⟨v, rfl, hv, hb⟩

theorem toS_l0 (l : List T) (hl : l.length ≤ 4000000) : ∀ (r i k : Nat) (x : List ByteArray), i + r = l.length → r < k → x.length = l.length → x.take i = (l.take i).map str →
    laws_toStringS.l0 k (l.map str) x i = some (l.map str) := by
  intro r
  induction r with
  | zero =>
    intro i k x hi hk hx ht
    obtain ⟨k, rfl⟩ : ∃ j, k = j + 1 := ⟨k - 1, by omega⟩
    rw [laws_toStringS.l0, List.length_map, if_neg (by omega)]
    rw [List.take_of_length_le (by omega), List.take_of_length_le (by omega)] at ht
    rw [ht]
  | succ r ih =>
    intro i k x hi hk hx ht
    obtain ⟨k, rfl⟩ : ∃ j, k = j + 1 := ⟨k - 1, by omega⟩
    have hlt : i < l.length := by omega
    rw [laws_toStringS.l0, List.length_map, if_pos (by omega), if_pos (by omega), if_pos (by omega), Int.toNat_natCast, rdOf_map l i hlt, wi (by omega) (by omega), show (i : Int) + 1 = ((i + 1 : Nat) : Int) by omega]
    refine ih (i + 1) k _ (by omega) (by omega) (by rw [List.length_set]; exact hx) ?_
    rw [List.take_succ_eq_append_getElem (by rw [List.length_set]; omega), List.take_succ_eq_append_getElem hlt, List.map_append, List.take_set_of_le (Nat.le_refl _), ht, List.getElem_set_self]
    rfl

theorem toScheme_any {p b : T} {ws : List T} {A : Option Addr} {c : Nat} (hl : ws.length ≤ 1048576) (w : World) (ht : Texts w A c ws) :
    Calls Tryd.prog 16 #[.agg #[.string (str p), .string (str b), .slice A ws.length c]] w fun e w' => ∃ A' c', e = .returned (.agg #[.string (str p), .string (str b), .slice A' ws.length c']) ∧ Texts w' A' c' ws ∧ Below w.heap.size w w' := by
  have e : laws_toScheme.f (ws.length + 1) (str p) (str b) (ws.map str) = some (str p, str b, ws.map str) := by
    unfold laws_toScheme.f laws_toStringS.f
    rw [List.length_map, if_pos (by omega), Int.toNat_natCast, if_pos (by omega), show (0 : Int) = ((0 : Nat) : Int) from rfl, toS_l0 ws (by omega) ws.length 0 (ws.length + 1) _ (by omega) (by omega) (by simp) (by simp)]
    rfl
  have h := laws_toScheme.calls (ws.length + 1) (str p) (str b) A c (ws.map str) _ _ _ w ht.1 ht.2 e
  rw [List.length_map] at h
  refine h.mono ?_
  rintro e w' ⟨v, rfl, hR, hb⟩
  obtain ⟨A', c', rfl⟩ := Kd.R_slice hR
  have hr := (Kd.R_reads' hR).2
  exact ⟨A', c', by rw [List.length_map], ⟨hr.2, hr.1⟩, hb⟩

theorem eqS_l0 (l : List T) (hl : l.length ≤ 4000000) : ∀ (r i k : Nat), i + r = l.length → r < k → laws_eqStringS.l0 k (l.map str) (l.map str) i = some true := by
  intro r
  induction r with
  | zero =>
    intro i k hi hk
    obtain ⟨k, rfl⟩ : ∃ j, k = j + 1 := ⟨k - 1, by omega⟩
    rw [laws_eqStringS.l0, List.length_map, if_neg (by omega)]
  | succ r ih =>
    intro i k hi hk
    obtain ⟨k, rfl⟩ : ∃ j, k = j + 1 := ⟨k - 1, by omega⟩
    rw [laws_eqStringS.l0, List.length_map, if_pos (by omega), if_pos (by omega), if_pos (by omega), if_pos rfl, wi (by omega) (by omega), show (i : Int) + 1 = ((i + 1 : Nat) : Int) by omega]
    exact ih (i + 1) k (by omega) (by omega)

theorem eqScheme_any {p b : T} {ws : List T} {A A' : Option Addr} {c c' : Nat} (hl : ws.length ≤ 1048576) (w : World) (ht : Texts w A c ws) (ht' : Texts w A' c' ws) :
    Calls Tryd.prog 18 #[.agg #[.string (str p), .string (str b), .slice A ws.length c], .agg #[.string (str p), .string (str b), .slice A' ws.length c']] w fun e w' => e = .returned (.bool true) ∧ Below w.heap.size w w' := by
  have e : laws_eqScheme.f (ws.length + 1) (str p) (str b) (ws.map str) (str p) (str b) (ws.map str) = some true := by
    unfold laws_eqScheme.f laws_eqStringS.f
    rw [if_pos rfl, if_pos rfl, if_pos rfl, show (0 : Int) = ((0 : Nat) : Int) from rfl, eqS_l0 ws (by omega) ws.length 0 (ws.length + 1) (by omega) (by omega)]
    rfl
  have h := laws_eqScheme.calls (ws.length + 1) (str p) (str b) A c (ws.map str) (str p) (str b) A' c' (ws.map str) true w ht.1 ht.2 ht'.1 ht'.2 e
  rw [List.length_map] at h
  exact h
end Go.Proofs.YtoieadofldkccaaDoor.Plates
