/-
  Plates: the signs allowed at a place, the words that stand in a text.
-/
import Derived.Test.YtoieadofldkccaaDoorHPTail
import Derived.Test.YtoieadofldkccaaDoorPrints2
import Derived.Lib.IndexLaws
namespace Go.Proofs.YtoieadofldkccaaDoor.Plates
open Go.RowKit Go.Proofs.YtoieadofldkccaaDoorW.PrintWords Go.Proofs.YtoieadofldkccaaDoorW.PrintLast Go.Proofs.YtoieadofldkccaaDoorW.PrintMore
open PFake (ML ml_below)
set_option linter.unusedVariables false
set_option linter.unusedSimpArgs false

theorem indexByte_mem (l : T) (c : UInt8) : 0 ≤ Lib.indexByte l c ↔ c ∈ l := by
  have ge := Lib.indexByte_ge l c
  constructor
  · intro h
    obtain ⟨o, ho⟩ : ∃ o : Nat, Lib.indexByte l c = o := ⟨_, (Int.toNat_of_nonneg h).symm⟩
    exact List.mem_of_getElem? (Lib.indexByte_some ho).1
  · intro h
    rcases Int.lt_or_le (Lib.indexByte l c) 0 with g | g
    · obtain ⟨k, hk⟩ := List.mem_iff_getElem?.1 h
      exact absurd hk (Lib.indexByte_none (by omega) k)
    · exact g

theorem index_infix (w : T) : ∀ t : T, 0 ≤ Lib.index t w ↔ w <:+: t := by
  intro t
  induction t with
  | nil =>
    rw [Lib.index]
    cases w with
    | nil => simp
    | cons a w => simp
  | cons c t ih =>
    have ge := Lib.index_ge t w
    rw [Lib.index, List.infix_cons_iff, ← ih, ← List.isPrefixOf_iff_prefix]
    by_cases h : w.isPrefixOf (c :: t) = true
    · rw [if_pos h]; simp [h]
    · rw [if_neg h]
      by_cases g : Lib.index t w = -1
      · rw [g]; simp [h]
      · rw [if_neg (by simpa using g)]
        constructor
        · intro _; exact .inr (by omega)
        · rintro (x | x)
          · exact absurd x h
          · omega

theorem contains_hasB (t w : T) : Lib.contains t w = hasB t w := by
  unfold Lib.contains
  by_cases h : w <:+: t
  · rw [hasB_true h]; exact decide_eq_true ((index_infix w t).2 h)
  · rw [hasB_false h]; exact decide_eq_false (fun x => h ((index_infix w t).1 x))

/-- the signs at a place that are not barred -/
def allowedL (b : T) (x : UInt8) : T := (signsAt x).filter fun c => decide (c ∉ b)

def span (a n : Nat) : T := (List.range' a n).map UInt8.ofNat

theorem span_succ (a n : Nat) : span a (n + 1) = UInt8.ofNat a :: span (a + 1) n := by
  unfold span; rw [List.range'_succ]; rfl

theorem span_digits : span 48 10 = digits := by decide
theorem span_letters : span 65 26 = letters := by decide

theorem allowed_l0 (p : ByteArray) (b : T) (l0 : List ByteArray) (last : Nat) (hl : last ≤ 200) : ∀ (r a : Nat) (acc : T) (k : Nat), a + r = last + 1 → r < k → acc.length + r ≤ 1000 →
    PFake.impl_Scheme_allowed.l0 k (nums acc) last a p (str b) l0 = some (nums (acc ++ (span a r).filter fun c => decide (c ∉ b))) := by
  intro r
  induction r with
  | zero =>
    intro a acc k ha hk hacc
    obtain ⟨k, rfl⟩ : ∃ j, k = j + 1 := ⟨k - 1, by omega⟩
    rw [PFake.impl_Scheme_allowed.l0, if_neg (by omega)]
    simp [span]
  | succ r ih =>
    intro a acc k ha hk hacc
    obtain ⟨k, rfl⟩ : ∃ j, k = j + 1 := ⟨k - 1, by omega⟩
    have hb : ((UInt8.ofNat a).toNat : Int) = a := by simp; omega
    have ei : PFake.strings_IndexByte.f (str b) (a : Int) = some (Lib.indexByte b (UInt8.ofNat a)) := rfl
    rw [PFake.impl_Scheme_allowed.l0, if_pos (by omega), ei]
    simp only [Option.bind_some]
    have e1 : ((a : Int) + 1) % 256 = ((a + 1 : Nat) : Int) := by omega
    have hm := indexByte_mem b (UInt8.ofNat a)
    by_cases h : UInt8.ofNat a ∈ b
    · rw [if_neg (by have := hm.2 h; omega), e1, ih (a + 1) acc k (by omega) (by omega) (by omega), span_succ, List.filter_cons_of_neg (by simpa using h)]
    · have h0 : Lib.indexByte b (UInt8.ofNat a) < 0 := by
        rcases Int.lt_or_le (Lib.indexByte b (UInt8.ofNat a)) 0 with g | g
        · exact g
        · exact absurd (hm.1 g) h
      rw [if_pos h0, List.length_map, if_pos (by omega), e1]
      have e2 : nums acc ++ [(a : Int)] = nums (acc ++ [UInt8.ofNat a]) := by simp only [List.map_append, List.map_cons, List.map_nil]; rw [hb]
      rw [e2, ih (a + 1) (acc ++ [UInt8.ofNat a]) k (by omega) (by omega) (by rw [List.length_append, List.length_singleton]; omega), span_succ, List.filter_cons_of_pos (by simpa using h), List.append_assoc]
      rfl

theorem allowed_eq (p b : T) (l0 : List ByteArray) (i : Nat) (hi : i < p.length) : PFake.impl_Scheme_allowed.f 100 (str p) (str b) l0 i = some (nums (allowedL b p[i])) := by
  unfold PFake.impl_Scheme_allowed.f
  simp only [Option.bind_some]
  rw [if_pos (by omega), str_size, if_pos (by omega), bt_str p i hi]
  have b76 : (p[i].toNat : Int) = 76 ↔ p[i] = 76 := ⟨fun h => UInt8.toNat_inj.1 (by have : (76 : UInt8).toNat = 76 := rfl; omega), fun h => by rw [h]; rfl⟩
  unfold allowedL signsAt
  by_cases h : p[i] = 76
  · rw [if_pos (b76.2 h), if_pos h, PFake.impl_Scheme_allowed.j0, ← span_letters]
    exact allowed_l0 (str p) b l0 90 (by omega) 26 65 [] 99 (by omega) (by omega) (by simp)
  · rw [if_neg (fun x => h (b76.1 x)), if_neg h, PFake.impl_Scheme_allowed.j0, ← span_digits]
    exact allowed_l0 (str p) b l0 57 (by omega) 10 48 [] 99 (by omega) (by omega) (by simp)

theorem wordsIn_l0 (ws : List T) (t : T) (ht : t.length ≤ 4000000) (hl : ws.length ≤ 4000000) : ∀ (r i : Nat) (acc : List Int) (k : Nat), i + r = ws.length → r < k → acc.length ≤ i → (acc = [] ↔ ∀ w ∈ ws.take i, ¬ w <:+: t) →
    ∃ out : List Int, PFake.impl_Scheme_wordsIn.l0 k (str t) acc (ws.map str) ws.length i = some out ∧ (out = [] ↔ Clean ws t) := by
  intro r
  induction r with
  | zero =>
    intro i acc k hi hk ha hn
    obtain ⟨k, rfl⟩ : ∃ j, k = j + 1 := ⟨k - 1, by omega⟩
    rw [PFake.impl_Scheme_wordsIn.l0, if_neg (by omega)]
    rw [List.take_of_length_le (by omega)] at hn
    exact ⟨acc, rfl, hn⟩
  | succ r ih =>
    intro i acc k hi hk ha hn
    obtain ⟨k, rfl⟩ : ∃ j, k = j + 1 := ⟨k - 1, by omega⟩
    have hlt : i < ws.length := by omega
    have tk : ws.take (i + 1) = ws.take i ++ [ws[i]] := List.take_succ_eq_append_getElem hlt
    have ec : PFake.strings_Contains.f (str t) (str ws[i]) = some (hasB t ws[i]) := by
      unfold PFake.strings_Contains.f
      rw [if_pos (by rw [str_size]; omega), ← contains_hasB]
    rw [PFake.impl_Scheme_wordsIn.l0, if_pos (by omega), if_pos (by omega), List.length_map, if_pos (by omega), rdOf_map ws i hlt, ec]
    simp only [Option.bind_some]
    rw [wi (by omega) (by omega), show (i : Int) + 1 = ((i + 1 : Nat) : Int) by omega]
    by_cases h : ws[i] <:+: t
    · rw [hasB_true h, if_pos rfl, if_pos (by omega)]
      refine ih (i + 1) (acc ++ [(i : Int)]) k (by omega) (by omega) (by rw [List.length_append, List.length_singleton]; omega) ⟨fun x => by simp at x, fun x => ?_⟩
      exact absurd h (x ws[i] (by rw [tk]; exact List.mem_append_right _ (List.mem_singleton.2 rfl)))
    · rw [hasB_false h, if_neg (by decide)]
      refine ih (i + 1) acc k (by omega) (by omega) (by omega) ⟨fun x w hw => ?_, fun x => hn.2 (fun w hw => x w (by rw [tk]; exact List.mem_append_left _ hw))⟩
      rw [tk] at hw
      rcases List.mem_append.1 hw with hw | hw
      · exact hn.1 x w hw
      · rw [List.mem_singleton.1 hw]; exact h

theorem wordsIn_eq (p b : ByteArray) (ws : List T) (t : T) (ht : t.length ≤ 4000000) (hl : ws.length ≤ 4000000) : ∃ out : List Int, PFake.impl_Scheme_wordsIn.f (ws.length + 1) p b (ws.map str) (str t) = some out ∧ (out = [] ↔ Clean ws t) := by
  unfold PFake.impl_Scheme_wordsIn.f
  rw [List.length_map]
  exact wordsIn_l0 ws t ht hl ws.length 0 [] (ws.length + 1) (by omega) (by omega) (by simp) (by simp)

/-! ### contracts -/
/-- a new list of bytes -/
def OutB (l : T) (w : World) (e : Ending) (w' : World) : Prop :=
  ∃ A c, e = .returned (.slice A l.length c) ∧ Aside0 (l.length ≤ c ∧ Kd.C (Kd.int .u8) w' A l.length (nums l)) ∧ Aside0 (Below w.heap.size w w')

theorem allowed_any {p b : T} {ws : List T} {A : Option Addr} {c : Nat} (i : Nat) (hi : i < p.length) (w : World) (ht : Texts w A c ws) :
    Calls Tryd.prog 86 #[.agg #[.string (str p), .string (str b), .slice A ws.length c], .int .i64 i] w (OutB (allowedL b p[i]) w) := by
  have h := PFake.impl_Scheme_allowed.calls 100 (str p) (str b) A c (ws.map str) i _ w ht.1 ht.2 (allowed_eq p b _ i hi)
  rw [List.length_map] at h
  refine h.mono ?_
  rintro e w' ⟨v, rfl, hR, hb⟩
  obtain ⟨A', cc, rfl⟩ := Kd.R_slice hR
  have h2 := (Kd.R_reads' hR).2
  rw [List.length_map] at h2
  exact ⟨A', cc, by rw [List.length_map], ⟨h2⟩, ⟨hb⟩⟩

theorem wordsIn_any {p b : T} {ws : List T} {A : Option Addr} {c : Nat} (t : T) (htl : t.length ≤ 4000000) (hl : ws.length ≤ 4000000) (w : World) (ht : Texts w A c ws) (hml : ML w) :
    Calls Tryd.prog 87 #[.agg #[.string (str p), .string (str b), .slice A ws.length c], .string (str t)] w fun e w' => ∃ A' n c', e = .returned (.slice A' n c') ∧ (n = 0 ↔ Clean ws t) ∧ Below w.heap.size w w' := by
  obtain ⟨out, e, ho⟩ := wordsIn_eq (str p) (str b) ws t htl hl
  have h := PFake.impl_Scheme_wordsIn.calls (ws.length + 1) (str p) (str b) A c (ws.map str) (str t) out w hml ht.1 ht.2 e
  rw [List.length_map] at h
  refine h.mono ?_
  rintro e w' ⟨v, rfl, hR, hb⟩
  obtain ⟨A', cc, rfl⟩ := Kd.R_slice hR
  exact ⟨A', out.length, cc, rfl, by rw [List.length_eq_zero_iff]; exact ho, hb⟩
end Go.Proofs.YtoieadofldkccaaDoor.Plates
