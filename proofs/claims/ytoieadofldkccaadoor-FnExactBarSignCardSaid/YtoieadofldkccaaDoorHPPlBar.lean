/-
  Plates: spec.plBar puts the sign in.
-/
import Derived.Test.YtoieadofldkccaaDoorHPBarred
import Derived.Test.YtoieadofldkccaaDoorHPPrints3
namespace Go.Proofs.YtoieadofldkccaaDoor.Plates
open Go.RowKit Go.Proofs.YtoieadofldkccaaDoorW.PrintWords Go.Proofs.YtoieadofldkccaaDoorW.PrintLast Go.Proofs.YtoieadofldkccaaDoorW.PrintMore Go.Proofs.YtoieadofldkccaaDoor.PFnExactCountBeginning Go.Proofs.YtoieadofldkccaaDoor.PBar
set_option linter.unusedVariables false
set_option linter.unusedSimpArgs false

theorem less_one (y x : UInt8) : Op.bytesLess [y] [x] = decide (y.toNat < x.toNat) := by
  by_cases h : y.toNat < x.toNat
  · simp [Op.bytesLess, h, UInt8.lt_iff_toNat_lt]
  · simp [Op.bytesLess, h, UInt8.lt_iff_toNat_lt]

theorem own_eq (ws : List T) (h : ws.length ≤ 1048576) : spec_l1OwnS.f (ws.map str) = some (ws.map str) := by
  unfold spec_l1OwnS.f
  rw [Option.bind_some, if_pos (by simp; omega)]
  rfl

theorem plBar_l0 (p b : T) (x : UInt8) (ws : List T) (hb : b.length ≤ 36) (hl : ws.length ≤ 3) : ∀ (r i k : Nat), i + r = b.length → r < k → (∀ z ∈ b.take i, z.toNat < x.toNat) → spec_plBar.l0 k (str [x]) i (str p) (str b) (ws.map str) = some (str p, str (put b x), ws.map str) := by
  have hsx : (str [x]).size = 1 := str_size [x]
  have fin : ∀ i : Nat, i ≤ b.length → (∀ z ∈ b.take i, z.toNat < x.toNat) → (∀ h : i < b.length, ¬ b[i].toNat < x.toNat) → (str b).extract 0 i ++ str [x] ++ (str b).extract i (str b).size = str (put b x) := fun i h1 h2 h3 => by
    rw [put_at i h1 h2 h3, extract_str, extract_str, str_size, str_append, str_append, Nat.sub_zero, List.drop_zero, List.take_of_length_le (l := b.drop i) (by simp)]
    simp
  intro r
  induction r with
  | zero =>
    intro i k hi hk ht
    obtain ⟨k, rfl⟩ : ∃ j, k = j + 1 := ⟨k - 1, by omega⟩
    rw [spec_plBar.l0, str_size, if_neg (by omega), if_pos (by omega), if_pos (by omega), Int.toNat_natCast]
    rw [if_pos (by rw [ByteArray.size_extract, str_size, hsx]; omega)]
    rw [if_pos (by rw [ByteArray.size_append, ByteArray.size_extract, ByteArray.size_extract, str_size, hsx]; omega), own_eq ws (by omega), Option.bind_some]
    have := fin i (by omega) ht (fun h => by omega)
    rw [str_size] at this
    rw [this]
  | succ r ih =>
    intro i k hi hk ht
    obtain ⟨k, rfl⟩ : ∃ j, k = j + 1 := ⟨k - 1, by omega⟩
    have hib : i < b.length := by omega
    have e1 : wrap64 ((i : Int) + 1) = ((i + 1 : Nat) : Int) := by rw [wi (by omega) (by omega)]; omega
    have hex : (str b).extract i (i + 1) = str [b[i]] := by
      rw [extract_str, Nat.add_sub_cancel_left, List.drop_eq_getElem_cons hib]
      rfl
    rw [spec_plBar.l0, str_size, if_pos (by omega), if_pos (by omega), e1, if_pos (by omega), if_pos (by omega), Int.toNat_natCast, Int.toNat_natCast, hex, toList_str, toList_str, less_one]
    by_cases hl : b[i].toNat < x.toNat
    · rw [decide_eq_true hl, if_pos rfl]
      refine ih (i + 1) k (by omega) (by omega) fun z hz => ?_
      rw [List.take_succ_eq_append_getElem hib] at hz
      rcases List.mem_append.1 hz with hz | hz
      · exact ht z hz
      · rw [List.mem_singleton] at hz
        subst hz
        exact hl
    · rw [decide_eq_false hl, if_neg (by simp), if_pos (by omega)]
      rw [if_pos (by rw [ByteArray.size_extract, str_size, hsx]; omega)]
      rw [if_pos (by rw [ByteArray.size_append, ByteArray.size_extract, ByteArray.size_extract, str_size, hsx]; omega), own_eq ws (by omega), Option.bind_some]
      have := fin i (by omega) ht (fun _ => hl)
      rw [str_size] at this
      rw [this]

theorem plBar_any {p b : T} {ws : List T} {A : Option Addr} {c : Nat} (G : Good p b ws) (x : UInt8) (hx : x ∉ b) (w : World) (hT : Texts w A c ws) :
    Calls Tryd.prog 50 #[.agg #[.string (str p), .string (str b), .slice A ws.length c], .string (str [x])] w fun e w' => ∃ A' c', e = .returned (.agg #[.string (str p), .string (str (withX b x)), .slice A' ws.length c']) ∧ Own w' w.heap.size A' c' ws ∧ Below w.heap.size w w' := by
  have e : spec_plBar.f 50 (str p) (str b) (ws.map str) (str [x]) = some (str p, str (withX b x), ws.map str) := by
    have := G.b36
    unfold spec_plBar.f withX
    rw [if_neg hx]
    exact plBar_l0 p b x ws G.b36 G.w3 b.length 0 50 (by omega) (by omega) (fun z hz => by simp at hz)
  have h := spec_plBar.calls 50 (str p) (str b) A c (ws.map str) (str [x]) _ _ _ w hT.1 hT.2 e
  rw [List.length_map] at h
  refine h.mono ?_
  rintro e w' ⟨v, rfl, hR, hb⟩
  obtain ⟨A', c', rfl⟩ := Kd.R_slice hR
  rw [List.length_map] at hR
  exact ⟨A', c', by rw [List.length_map], hR, hb⟩
end Go.Proofs.YtoieadofldkccaaDoor.Plates
