/-
  Plates: what the printed functions of both sides tell, over lists of bytes.
-/
import Derived.Test.YtoieadofldkccaaDoorPrints
import Derived.Test.YtoieadofldkccaaDoorHPlates
namespace Go.Proofs.YtoieadofldkccaaDoor.Plates
open Go.RowKit Go.Proofs.YtoieadofldkccaaDoorW.PrintWords Go.Proofs.YtoieadofldkccaaDoorW.PrintLast Go.Proofs.YtoieadofldkccaaDoorW.PrintMore Go.Proofs.YtoieadofldkccaaDoor.PFnExactCountBeginning
set_option linter.unusedVariables false
set_option linter.unusedSimpArgs false

theorem wi {x : Int} (h : -9223372036854775808 ≤ x) (h2 : x ≤ 9223372036854775807) : wrap64 x = x := by
  unfold wrap64; omega

abbrev str (l : T) : ByteArray := ⟨l.toArray⟩
theorem str_size (l : T) : (str l).size = l.length := by simp [ByteArray.size]
theorem toList_str (l : T) : (str l).toList = l := by rw [ByteArray.toList_eq]
theorem str_of (s : ByteArray) : s = str s.data.toList := by cases s; simp
theorem str_inj {a b : T} : str a = str b ↔ a = b := by
  constructor
  · intro h
    have := congrArg (fun s : ByteArray => s.data.toList) h
    simpa using this
  · rintro rfl; rfl
theorem str_append (a b : T) : str a ++ str b = str (a ++ b) := by
  apply ByteArray.ext
  apply Array.ext'
  simp [ByteArray.toList_data_append]
theorem extract_str (l : T) (i j : Nat) : (str l).extract i j = str ((l.drop i).take (j - i)) := by
  apply ByteArray.ext
  apply Array.ext'
  simp [ByteArray.data_extract]

theorem bt_str (l : T) (i : Nat) (h : i < l.length) : bt (str l) (i : Int) = (l[i].toNat : Int) := by
  unfold bt
  rw [dif_pos (by rw [str_size]; simpa using h)]
  simp only [Int.toNat_natCast]
  rfl

/-! ### one text in another -/
open Classical in
noncomputable def hasB (t w : T) : Bool := decide (w <:+: t)
open Classical in
noncomputable def cleanB (ws : List T) (t : T) : Bool := decide (Clean ws t)

theorem hasB_true {t w : T} (h : w <:+: t) : hasB t w = true := by unfold hasB; exact decide_eq_true h
theorem hasB_false {t w : T} (h : ¬ w <:+: t) : hasB t w = false := by unfold hasB; exact decide_eq_false h
open Classical in
theorem cleanB_true {ws : List T} {t : T} (h : Clean ws t) : cleanB ws t = true := by unfold cleanB; exact decide_eq_true h
open Classical in
theorem cleanB_false {ws : List T} {t : T} (h : ¬ Clean ws t) : cleanB ws t = false := by unfold cleanB; exact decide_eq_false h
open Classical in
theorem cleanB_iff {ws : List T} {t : T} : cleanB ws t = true ↔ Clean ws t := by unfold cleanB; exact decide_eq_true_iff

theorem infix_iff (t w : T) : w <:+: t ↔ ∃ j, j + w.length ≤ t.length ∧ (t.drop j).take w.length = w := by
  constructor
  · rintro ⟨a, b, rfl⟩
    refine ⟨a.length, by simp, ?_⟩
    rw [List.append_assoc, List.drop_left' rfl, List.take_left' rfl]
  · rintro ⟨j, h1, h2⟩
    refine ⟨t.take j, t.drop (j + w.length), ?_⟩
    have e : t.drop j = w ++ t.drop (j + w.length) := by
      rw [← List.take_append_drop w.length (t.drop j), h2, List.drop_drop]
    rw [List.append_assoc, ← e, List.take_append_drop]

theorem plHas_l0 (t w : T) (ht : t.length ≤ 4000000) (hw : w.length ≤ 4000000) : ∀ (r i k : Nat), i + r = t.length + 1 → r < k → (∀ j, j < i → ¬ (j + w.length ≤ t.length ∧ (t.drop j).take w.length = w)) → spec_plHas.l0 k (str t) (str w) i = some (hasB t w) := by
  intro r
  induction r with
  | zero =>
    intro i k hi hk hn
    obtain ⟨k, rfl⟩ : ∃ j, k = j + 1 := ⟨k - 1, by omega⟩
    have hf : hasB t w = false := by
      refine hasB_false (fun h => ?_)
      obtain ⟨j, h1, h2⟩ := (infix_iff t w).1 h
      exact hn j (by omega) ⟨h1, h2⟩
    rw [spec_plHas.l0, str_size, str_size, wi (by omega) (by omega), if_neg (by omega), hf]
  | succ r ih =>
    intro i k hi hk hn
    obtain ⟨k, rfl⟩ : ∃ j, k = j + 1 := ⟨k - 1, by omega⟩
    rw [spec_plHas.l0, str_size, str_size, wi (x := (i : Int) + w.length) (by omega) (by omega)]
    by_cases c : i + w.length ≤ t.length
    · rw [if_pos (by omega), if_pos (by omega), if_pos (by omega), toList_str, extract_str, toList_str, Int.toNat_natCast, show ((i : Int) + w.length).toNat - i = w.length by omega]
      by_cases g : (t.drop i).take w.length = w
      · rw [if_pos g]
        have : hasB t w = true := hasB_true ((infix_iff t w).2 ⟨i, c, g⟩)
        rw [this]
      · rw [if_neg g, wi (by omega) (by omega), show (i : Int) + 1 = ((i + 1 : Nat) : Int) by omega]
        exact ih (i + 1) k (by omega) (by omega) (fun j hj => by
          by_cases e : j = i
          · subst e; exact fun x => g x.2
          · exact hn j (by omega))
    · rw [if_neg (by omega)]
      have hf : hasB t w = false := by
        refine hasB_false (fun h => ?_)
        obtain ⟨j, h1, h2⟩ := (infix_iff t w).1 h
        exact hn j (by omega) ⟨h1, h2⟩
      rw [hf]

theorem plHas_eq (t w : T) (ht : t.length ≤ 4000000) (hw : w.length ≤ 4000000) (k : Nat) (hk : t.length + 1 < k) : spec_plHas.f k (str t) (str w) = some (hasB t w) := by
  unfold spec_plHas.f
  exact plHas_l0 t w ht hw (t.length + 1) 0 k (by omega) hk (fun j hj => by omega)

theorem rdOf_map (ws : List T) (i : Nat) (h : i < ws.length) : rdOf ByteArray.empty (ws.map str) (i : Int) = str ws[i] := by
  unfold rdOf
  rw [Int.toNat_natCast, List.getD_eq_getElem?_getD, List.getElem?_map, List.getElem?_eq_getElem h]; rfl

theorem plClean_l0 (ws : List T) (t : T) (ht : t.length ≤ 4000000) (hw : ∀ w ∈ ws, w.length ≤ 4000000) (hl : ws.length ≤ 4000000) : ∀ (r i k : Nat), i + r = ws.length → r + t.length + 2 < k → (∀ w ∈ ws.take i, ¬ w <:+: t) → spec_plClean.l0 k (str t) (ws.map str) ws.length i = some (cleanB ws t) := by
  intro r
  induction r with
  | zero =>
    intro i k hi hk hn
    obtain ⟨k, rfl⟩ : ∃ j, k = j + 1 := ⟨k - 1, by omega⟩
    rw [spec_plClean.l0, if_neg (by omega)]
    rw [List.take_of_length_le (by omega)] at hn
    have : cleanB ws t = true := cleanB_true hn
    rw [this]
  | succ r ih =>
    intro i k hi hk hn
    obtain ⟨k, rfl⟩ : ∃ j, k = j + 1 := ⟨k - 1, by omega⟩
    have hlt : i < ws.length := by omega
    rw [spec_plClean.l0, if_pos (by omega), if_pos (by omega), List.length_map, if_pos (by omega), rdOf_map ws i hlt, plHas_eq t ws[i] ht (hw _ (List.getElem_mem hlt)) k (by omega)]
    simp only [Option.bind_some]
    by_cases g : ws[i] <:+: t
    · have h1 : hasB t ws[i] = true := hasB_true g
      have h2 : cleanB ws t = false := cleanB_false (fun h => h _ (List.getElem_mem hlt) g)
      rw [h1, h2, if_pos rfl]
    · have h1 : hasB t ws[i] = false := hasB_false g
      rw [h1, if_neg (by decide), wi (by omega) (by omega), show (i : Int) + 1 = ((i + 1 : Nat) : Int) by omega]
      refine ih (i + 1) k (by omega) (by omega) (fun w hm => ?_)
      rw [List.take_succ_eq_append_getElem hlt] at hm
      rcases List.mem_append.1 hm with hm | hm
      · exact hn w hm
      · rw [List.mem_singleton.1 hm]; exact g

theorem plClean_eq (p b : ByteArray) (ws : List T) (t : T) (ht : t.length ≤ 4000000) (hw : ∀ w ∈ ws, w.length ≤ 4000000) (hl : ws.length ≤ 4000000) (k : Nat) (hk : ws.length + t.length + 2 < k) : spec_plClean.f k p b (ws.map str) (str t) = some (cleanB ws t) := by
  unfold spec_plClean.f
  rw [List.length_map]
  exact plClean_l0 ws t ht hw hl ws.length 0 k (by omega) hk (fun w hm => by simp at hm)

/-! ### signs -/
def Sign (c : UInt8) : Prop := (65 ≤ c.toNat ∧ c.toNat ≤ 90) ∨ (48 ≤ c.toNat ∧ c.toNat ≤ 57)
instance (c : UInt8) : Decidable (Sign c) := by unfold Sign; exact inferInstance
def Signs (t : T) : Prop := ∀ c ∈ t, Sign c
instance (t : T) : Decidable (Signs t) := by unfold Signs; exact inferInstance

theorem plSign_eq (c : UInt8) : spec_plSign.f (c.toNat : Int) = some (decide (Sign c)) := by
  unfold spec_plSign.f
  by_cases h1 : 65 ≤ c.toNat
  · rw [if_pos (by omega)]
    by_cases h2 : c.toNat ≤ 90
    · rw [if_pos (by omega), decide_eq_true (show Sign c from .inl ⟨h1, h2⟩)]
    · rw [if_neg (by omega), if_pos (by omega), decide_eq_false (by omega), decide_eq_false (show ¬ Sign c by unfold Sign; omega)]
  · rw [if_neg (by omega)]
    by_cases h2 : 48 ≤ c.toNat
    · rw [if_pos (by omega)]
      by_cases h3 : c.toNat ≤ 57
      · rw [decide_eq_true (by omega), decide_eq_true (show Sign c from .inr ⟨h2, h3⟩)]
      · rw [decide_eq_false (by omega), decide_eq_false (show ¬ Sign c by unfold Sign; omega)]
    · rw [if_neg (by omega), decide_eq_false (show ¬ Sign c by unfold Sign; omega)]

theorem plSigns_l0 (t : T) (ht : t.length ≤ 4000000) : ∀ (r i k : Nat), i + r = t.length → r < k → Signs (t.take i) → spec_plSigns.l0 k (str t) i = some (decide (Signs t)) := by
  intro r
  induction r with
  | zero =>
    intro i k hi hk hn
    obtain ⟨k, rfl⟩ : ∃ j, k = j + 1 := ⟨k - 1, by omega⟩
    rw [List.take_of_length_le (by omega)] at hn
    rw [spec_plSigns.l0, str_size, if_neg (by omega), decide_eq_true hn]
  | succ r ih =>
    intro i k hi hk hn
    obtain ⟨k, rfl⟩ : ∃ j, k = j + 1 := ⟨k - 1, by omega⟩
    have hlt : i < t.length := by omega
    rw [spec_plSigns.l0, str_size, if_pos (by omega), if_pos (by omega), bt_str t i hlt, plSign_eq]
    simp only [Option.bind_some, decide_eq_true_eq]
    by_cases g : Sign t[i]
    · rw [if_pos g, wi (by omega) (by omega), show (i : Int) + 1 = ((i + 1 : Nat) : Int) by omega]
      refine ih (i + 1) k (by omega) (by omega) (fun c hm => ?_)
      rw [List.take_succ_eq_append_getElem hlt] at hm
      rcases List.mem_append.1 hm with hm | hm
      · exact hn c hm
      · rw [List.mem_singleton.1 hm]; exact g
    · rw [if_neg g, decide_eq_false (fun h => g (h _ (List.getElem_mem hlt)))]

theorem l1In_eq (a b c : Int) : spec_l1In.f a b c = some (decide (b ≤ a ∧ a ≤ c)) := by
  unfold spec_l1In.f
  by_cases h : a ≥ b
  · rw [if_pos h]; congr 1; simp only [decide_eq_decide]; omega
  · rw [if_neg h, decide_eq_false (by omega)]
theorem within_eq (a b c : Int) : impl_within.f a b c = some (decide (b ≤ a ∧ a ≤ c)) := by
  unfold impl_within.f
  by_cases h : b ≤ a
  · rw [if_pos h]; congr 1; simp only [decide_eq_decide]; omega
  · rw [if_neg h, decide_eq_false (by omega)]

/-- so many signs -/
def Some (t : T) (a b : Nat) : Prop := (a ≤ t.length ∧ t.length ≤ b) ∧ Signs t
instance (t : T) (a b : Nat) : Decidable (Some t a b) := by unfold Some; exact inferInstance

theorem plSigns_eq (t : T) (ht : t.length ≤ 4000000) (a b : Nat) (k : Nat) (hk : t.length < k) : spec_plSigns.f k (str t) a b = some (decide (Some t a b)) := by
  unfold spec_plSigns.f
  rw [l1In_eq, str_size]
  simp only [Option.bind_some, decide_eq_true_eq]
  by_cases h : (a : Int) ≤ t.length ∧ (t.length : Int) ≤ b
  · have h0 := plSigns_l0 t ht t.length 0 k (by omega) hk (fun c hc => by simp at hc)
    rw [if_pos h]
    rw [show ((0 : Nat) : Int) = 0 from rfl] at h0
    rw [h0]; congr 1
    simp only [decide_eq_decide]
    exact ⟨fun x => ⟨by omega, x⟩, fun x => x.2⟩
  · rw [if_neg h, decide_eq_false (fun x => h (by have := x.1; omega))]

theorem isLetter_eq (c : UInt8) : impl_isLetter.f (c.toNat : Int) = some (decide (65 ≤ c.toNat ∧ c.toNat ≤ 90)) := by
  unfold impl_isLetter.f
  by_cases h : 65 ≤ c.toNat
  · rw [if_pos (by omega)]; congr 1; simp only [decide_eq_decide]; omega
  · rw [if_neg (by omega), decide_eq_false (by omega)]

theorem areSigns_l0 (t : T) (ht : t.length ≤ 4000000) (a b : Nat) : ∀ (r i k : Nat), i + r = t.length → r < k → Signs (t.take i) → impl_areSigns.l0 k (str t) a b t.length i = some (decide (Some t a b)) := by
  intro r
  induction r with
  | zero =>
    intro i k hi hk hn
    obtain ⟨k, rfl⟩ : ∃ j, k = j + 1 := ⟨k - 1, by omega⟩
    rw [List.take_of_length_le (by omega)] at hn
    rw [impl_areSigns.l0, str_size, if_neg (by omega), within_eq]
    simp only [Option.bind_some, Option.some.injEq, decide_eq_decide]
    exact ⟨fun x => ⟨by omega, hn⟩, fun x => by have := x.1; omega⟩
  | succ r ih =>
    intro i k hi hk hn
    obtain ⟨k, rfl⟩ : ∃ j, k = j + 1 := ⟨k - 1, by omega⟩
    have hlt : i < t.length := by omega
    have step : ∀ (g : Sign t[i]), impl_areSigns.l0 k (str t) a b t.length (wrap64 ((i : Int) + 1)) = some (decide (Some t a b)) := fun g => by
      rw [wi (by omega) (by omega), show (i : Int) + 1 = ((i + 1 : Nat) : Int) by omega]
      refine ih (i + 1) k (by omega) (by omega) (fun c hm => ?_)
      rw [List.take_succ_eq_append_getElem hlt] at hm
      rcases List.mem_append.1 hm with hm | hm
      · exact hn c hm
      · rw [List.mem_singleton.1 hm]; exact g
    have none : ∀ (g : ¬ Sign t[i]), some false = some (decide (Some t a b)) := fun g => by
      rw [decide_eq_false (fun h => g (h.2 _ (List.getElem_mem hlt)))]
    rw [impl_areSigns.l0, if_pos (by omega), if_pos (by omega), str_size, if_pos (by omega), bt_str t i hlt, isLetter_eq]
    simp only [Option.bind_some, decide_eq_true_eq]
    by_cases h1 : 65 ≤ t[i].toNat ∧ t[i].toNat ≤ 90
    · rw [if_pos h1]; exact step (.inl h1)
    · rw [if_neg h1]
      by_cases h2 : (t[i].toNat : Int) < 48
      · rw [if_pos h2]; exact none (by unfold Sign; omega)
      · rw [if_neg h2]
        by_cases h3 : (t[i].toNat : Int) > 57
        · rw [if_pos h3]; exact none (by unfold Sign; omega)
        · rw [if_neg h3]; exact step (.inr (by omega))

theorem areSigns_eq (t : T) (ht : t.length ≤ 4000000) (a b : Nat) (k : Nat) (hk : t.length < k) : impl_areSigns.f k (str t) a b = some (decide (Some t a b)) := by
  unfold impl_areSigns.f
  rw [str_size]
  exact areSigns_l0 t ht a b t.length 0 k (by omega) hk (fun c hc => by simp at hc)

/-! ### schemes -/
def Rising (b : T) : Prop := ∀ i, (h : i + 1 < b.length) → b[i].toNat < b[i + 1].toNat
def Pattern (p : T) : Prop := ∀ c ∈ p, c = 76 ∨ c = 68
/-- a scheme -/
structure Good (p b : T) (ws : List T) : Prop where
  p1 : 1 ≤ p.length
  p8 : p.length ≤ 8
  pat : Pattern p
  b36 : b.length ≤ 36
  bs : Signs b
  br : Rising b
  w3 : ws.length ≤ 3
  ww : ∀ w ∈ ws, Some w 1 4
open Classical in
noncomputable def goodB (p b : T) (ws : List T) : Bool := decide (Good p b ws)

open Classical in
theorem goodB_true {p b : T} {ws : List T} (h : Good p b ws) : goodB p b ws = true := by unfold goodB; exact decide_eq_true h
open Classical in
theorem goodB_false {p b : T} {ws : List T} (h : ¬ Good p b ws) : goodB p b ws = false := by unfold goodB; exact decide_eq_false h
theorem good_no {p b : T} {ws : List T} (h : ¬ Good p b ws) : some false = some (goodB p b ws) := by rw [goodB_false h]

theorem plGood_l2 (p b : T) (ws : List T) (hp : 1 ≤ p.length ∧ p.length ≤ 8) (h2 : Pattern p) (h3 : Some b 0 36) (h4 : Rising b) (hl : ws.length ≤ 3) (hw : ∀ w ∈ ws, w.length ≤ 4000000) : ∀ (r i k : Nat), i + r = ws.length → r + 4000001 < k → (∀ w ∈ ws.take i, Some w 1 4) → spec_plGood.l2 k (ws.map str) ws.length i = some (goodB p b ws) := by
  intro r
  induction r with
  | zero =>
    intro i k hi hk hn
    obtain ⟨k, rfl⟩ : ∃ j, k = j + 1 := ⟨k - 1, by omega⟩
    rw [List.take_of_length_le (by omega)] at hn
    rw [spec_plGood.l2, if_neg (by omega)]
    rw [goodB_true ⟨hp.1, hp.2, h2, h3.1.2, h3.2, h4, hl, hn⟩]
  | succ r ih =>
    intro i k hi hk hn
    obtain ⟨k, rfl⟩ : ∃ j, k = j + 1 := ⟨k - 1, by omega⟩
    have hlt : i < ws.length := by omega
    have hwi := hw _ (List.getElem_mem hlt)
    have e := plSigns_eq ws[i] hwi 1 4 k (by omega)
    rw [spec_plGood.l2, if_pos (by omega), if_pos (by omega), List.length_map, if_pos (by omega), rdOf_map ws i hlt]
    rw [show ((1 : Nat) : Int) = 1 from rfl, show ((4 : Nat) : Int) = 4 from rfl] at e
    rw [e]
    simp only [Option.bind_some, decide_eq_true_eq]
    by_cases g : Some ws[i] 1 4
    · rw [if_pos g, wi (by omega) (by omega), show (i : Int) + 1 = ((i + 1 : Nat) : Int) by omega]
      refine ih (i + 1) k (by omega) (by omega) (fun w hm => ?_)
      rw [List.take_succ_eq_append_getElem hlt] at hm
      rcases List.mem_append.1 hm with hm | hm
      · exact hn w hm
      · rw [List.mem_singleton.1 hm]; exact g
    · rw [if_neg g]
      exact good_no (fun h => g (h.ww _ (List.getElem_mem hlt)))

theorem plGood_l1 (p b : T) (ws : List T) (hp : 1 ≤ p.length ∧ p.length ≤ 8) (h2 : Pattern p) (h3 : Some b 0 36) (hl : ws.length ≤ 3) (hw : ∀ w ∈ ws, w.length ≤ 4000000) : ∀ (r i k : Nat), i + r = b.length + 1 → 1 ≤ i → r + 4000010 < k → (∀ j, (h : j + 1 < b.length) → j + 1 < i → b[j].toNat < b[j + 1].toNat) → spec_plGood.l1 k i (str p) (str b) (ws.map str) = some (goodB p b ws) := by
  intro r
  induction r with
  | zero =>
    intro i k hi i1 hk hn
    obtain ⟨k, rfl⟩ : ∃ j, k = j + 1 := ⟨k - 1, by omega⟩
    rw [spec_plGood.l1, str_size, if_neg (by omega), List.length_map]
    exact plGood_l2 p b ws hp h2 h3 (fun j hj => hn j hj (by omega)) hl hw ws.length 0 k (by omega) (by omega) (fun w hm => by simp at hm)
  | succ r ih =>
    intro i k hi i1 hk hn
    obtain ⟨k, rfl⟩ : ∃ j, k = j + 1 := ⟨k - 1, by omega⟩
    have hb := h3.1.2
    by_cases c : i < b.length
    · obtain ⟨j, rfl⟩ : ∃ j, i = j + 1 := ⟨i - 1, by omega⟩
      rw [spec_plGood.l1, str_size, if_pos (by omega), wi (x := ((j + 1 : Nat) : Int) - 1) (by omega) (by omega), if_pos (by omega), if_pos (by omega), if_pos (by omega), show ((j + 1 : Nat) : Int) - 1 = (j : Nat) by omega, bt_str b j (by omega), bt_str b (j + 1) c]
      by_cases g : b[j].toNat < b[j + 1].toNat
      · rw [if_neg (by omega), wi (by omega) (by omega), show ((j + 1 : Nat) : Int) + 1 = ((j + 1 + 1 : Nat) : Int) by omega]
        refine ih (j + 1 + 1) k (by omega) (by omega) (by omega) (fun x hx hy => ?_)
        by_cases e : x = j
        · subst e; exact g
        · exact hn x hx (by omega)
      · rw [if_pos (by omega)]
        exact good_no (fun h => g (h.br j c))
    · rw [spec_plGood.l1, str_size, if_neg (by omega), List.length_map]
      exact plGood_l2 p b ws hp h2 h3 (fun j hj => hn j hj (by omega)) hl hw ws.length 0 k (by omega) (by omega) (fun w hm => by simp at hm)

theorem plGood_l0 (p b : T) (ws : List T) (hp : 1 ≤ p.length ∧ p.length ≤ 8) (h3 : Some b 0 36) (hl : ws.length ≤ 3) (hw : ∀ w ∈ ws, w.length ≤ 4000000) : ∀ (r i k : Nat), i + r = p.length → r + 4000100 < k → Pattern (p.take i) → spec_plGood.l0 k i (str p) (str b) (ws.map str) = some (goodB p b ws) := by
  intro r
  induction r with
  | zero =>
    intro i k hi hk hn
    obtain ⟨k, rfl⟩ : ∃ j, k = j + 1 := ⟨k - 1, by omega⟩
    rw [List.take_of_length_le (by omega)] at hn
    have hb := h3.1.2
    rw [spec_plGood.l0, str_size, if_neg (by omega)]
    exact plGood_l1 p b ws hp hn h3 hl hw b.length 1 k (by omega) (by omega) (by omega) (fun j _ h => by omega)
  | succ r ih =>
    intro i k hi hk hn
    obtain ⟨k, rfl⟩ : ∃ j, k = j + 1 := ⟨k - 1, by omega⟩
    have hlt : i < p.length := by omega
    have step : ∀ (g : p[i] = 76 ∨ p[i] = 68), spec_plGood.l0 k (wrap64 ((i : Int) + 1)) (str p) (str b) (ws.map str) = some (goodB p b ws) := fun g => by
      rw [wi (by omega) (by omega), show (i : Int) + 1 = ((i + 1 : Nat) : Int) by omega]
      refine ih (i + 1) k (by omega) (by omega) (fun c hm => ?_)
      rw [List.take_succ_eq_append_getElem hlt] at hm
      rcases List.mem_append.1 hm with hm | hm
      · exact hn c hm
      · rw [List.mem_singleton.1 hm]; exact g
    have b76 : (p[i].toNat : Int) = 76 ↔ p[i] = 76 := ⟨fun h => UInt8.toNat_inj.1 (by have : (76 : UInt8).toNat = 76 := rfl; omega), fun h => by rw [h]; rfl⟩
    have b68 : (p[i].toNat : Int) = 68 ↔ p[i] = 68 := ⟨fun h => UInt8.toNat_inj.1 (by have : (68 : UInt8).toNat = 68 := rfl; omega), fun h => by rw [h]; rfl⟩
    rw [spec_plGood.l0, str_size, if_pos (by omega), if_pos (by omega), bt_str p i hlt]
    by_cases h1 : p[i] = 76
    · rw [if_pos (b76.2 h1)]; exact step (.inl h1)
    · rw [if_neg (fun x => h1 (b76.1 x))]
      by_cases h2 : p[i] = 68
      · rw [if_pos (b68.2 h2)]; exact step (.inr h2)
      · rw [if_neg (fun x => h2 (b68.1 x))]
        exact good_no (fun h => by rcases h.pat _ (List.getElem_mem hlt) with x | x <;> contradiction)

theorem plGood_eq (p b : T) (ws : List T) (hb : b.length ≤ 4000000) (hw : ∀ w ∈ ws, w.length ≤ 4000000) (k : Nat) (hk : 4000200 < k) : spec_plGood.f k (str p) (str b) (ws.map str) = some (goodB p b ws) := by
  obtain ⟨k, rfl⟩ : ∃ j, k = j + 1 := ⟨k - 1, by omega⟩
  unfold spec_plGood.f
  have e := plSigns_eq b hb 0 36 (k + 1) (by omega)
  rw [show ((0 : Nat) : Int) = 0 from rfl, show ((36 : Nat) : Int) = 36 from rfl] at e
  rw [l1In_eq, str_size, e]
  simp only [Option.bind_some, decide_eq_true_eq]
  by_cases h1 : (1 : Int) ≤ p.length ∧ (p.length : Int) ≤ 8
  · rw [if_pos h1]
    by_cases h2 : Some b 0 36
    · rw [if_pos h2, spec_plGood.j0, List.length_map]
      by_cases h3 : (ws.length : Int) > 3
      · rw [decide_eq_true h3, if_pos rfl]
        exact good_no (fun h => by have := h.w3; omega)
      · rw [decide_eq_false h3, if_neg (by decide)]
        exact plGood_l0 p b ws (by omega) h2 (by omega) hw p.length 0 k (by omega) (by omega) (fun c hc => by simp at hc)
    · rw [if_neg h2, spec_plGood.j0, if_pos rfl]
      exact good_no (fun h => h2 ⟨⟨Nat.zero_le _, h.b36⟩, h.bs⟩)
  · rw [if_neg h1, spec_plGood.j0, if_pos rfl]
    exact good_no (fun h => by have := h.p1; have := h.p8; omega)
end Go.Proofs.YtoieadofldkccaaDoor.Plates
