/-
  Plates: the counter's map, as a datum: each key that it has holds its count.
-/
import Derived.Test.YtoieadofldkccaaDoorHPFrom
import Derived.Maps.Own
import Derived.Maps.OwnSet
import Derived.Maps.Views
namespace Go.Proofs.YtoieadofldkccaaDoor.Plates
open Go.RowKit Go.Proofs.YtoieadofldkccaaDoorW.PrintWords Go.Proofs.YtoieadofldkccaaDoorW.PrintLast Go.Proofs.YtoieadofldkccaaDoorW.PrintMore Go.Proofs.YtoieadofldkccaaDoor.PFnExactCountBeginning
open PFake (ML ml_below)
set_option linter.unusedVariables false
set_option linter.unusedSimpArgs false

/-- a key of the map -/
abbrev keyT (place : Nat) (e : T) : T := UInt8.ofNat (97 + place) :: e
abbrev keyL (place : Nat) (e : T) : Lit := .string (keyT place e)
theorem keyT_inj {a b : Nat} {s t : T} (ha : a ≤ 8) (hb : b ≤ 8) (h : keyT a s = keyT b t) : a = b ∧ s = t := by
  obtain ⟨h1, h2⟩ := List.cons.inj h
  refine ⟨?_, h2⟩
  have := congrArg UInt8.toNat h1
  simp at this
  omega

/-- each key that is there holds its count -/
def Known (p b : T) (ws : List T) (D : DataW Unit) : Prop := Maps.IsMap D ∧ ∀ place e, place ≤ 8 → Maps.has D (keyL place e) = true → D.atKey (keyL place e) (.lit (.int .i64 0)) = .lit (.int .i64 (cnt b ws (p.drop place) e : Nat))

theorem known_new (p b : T) (ws : List T) : Known p b ws (.map []) := ⟨Maps.isMap_empty, fun place e _ h => by simp [Maps.has] at h⟩

theorem known_put {p b : T} {ws : List T} {D : DataW Unit} (h : Known p b ws D) (place : Nat) (hp : place ≤ 8) (e : T) : Known p b ws (D.put (keyL place e) (.lit (.int .i64 (cnt b ws (p.drop place) e : Nat)))) := by
  obtain ⟨⟨es, rfl⟩, h2⟩ := h
  refine ⟨⟨_, rfl⟩, fun place' e' hp' hh => ?_⟩
  by_cases he : keyL place' e' = keyL place e
  · have := Lit.string.inj he
    obtain ⟨rfl, rfl⟩ := keyT_inj hp' hp this
    exact Maps.atKey_put_same ⟨es, rfl⟩ (by trivial) _ _
  · rw [Maps.atKey_put_other he]
    rw [Maps.has_put_other he] at hh
    exact h2 place' e' hp' hh

/-- block bm is the counter's map, of at most n entries -/
def Memo (p b : T) (ws : List T) (W : World) (bm n : Nat) : Prop := ∃ D : DataW Unit, W.ownsMap Tryd.prog 9 (plainElem Tryd.prog 3) bm n D ∧ Known p b ws D

theorem Memo.lt {p b : T} {ws : List T} {W : World} {bm n : Nat} (h : Memo p b ws W bm n) : bm < W.heap.size := by
  obtain ⟨D, h, _⟩ := h; exact h.lt
theorem Memo.mono {p b : T} {ws : List T} {W : World} {bm n n' : Nat} (h : Memo p b ws W bm n) (hn : n ≤ n') : Memo p b ws W bm n' := by
  obtain ⟨D, h, k⟩ := h; exact ⟨D, h.mono hn, k⟩
theorem Memo.block {p b : T} {ws : List T} {W W' : World} {bm n : Nat} (h : Memo p b ws W bm n) (e : W'.heap[bm]? = W.heap[bm]?) : Memo p b ws W' bm n := by
  obtain ⟨D, ⟨es, clock, hb, r⟩, k⟩ := h
  exact ⟨D, ⟨es, clock, e.trans hb, r⟩, k⟩
theorem Memo.below {p b : T} {ws : List T} {W W' : World} {bm n K : Nat} (h : Memo p b ws W bm n) (hb : Below K W W') (hk : bm < K) : Memo p b ws W' bm n := h.block (hb.block bm hk)
theorem memo_new (p b : T) (ws : List T) (W : World) : Memo p b ws (W.alloc (.map #[] 0)) W.heap.size 0 := ⟨_, World.ownsMap_made W _ _ _, known_new p b ws⟩

theorem law9 : Maps.Keyed Tryd.prog 9 := Maps.string_keyed (by kernel_rfl)
theorem und56 : Tryd.prog.underlying 56 = some (.map 9 3) := by kernel_rfl
theorem und3 : Tryd.prog.underlying 3 = some (.int .i64) := by kernel_rfl
theorem und9 : Tryd.prog.underlying 9 = some .string := by kernel_rfl
theorem zero3 (w : World) : (zeroValue 3).run Tryd.prog w = .ok (.int .i64 0) w := by kernel_rfl
theorem key_of (t : T) (h : t.length ≤ 4000000) : keyOf Tryd.prog 9 (.string (str t)) = some (.string t) :=
  WideMaps.keyOf_string_mk und9 (by rw [str_size]; unfold maxLen; omega)

/-! ### frames: below a base all is as it was; of what is above only the map has turned -/
theorem grown_trans {w1 w2 w3 : World} {r : Option Nat} (h : w1.grownBy w2 r) (k : w2.grownBy w3 r) : w1.grownBy w3 r :=
  ⟨k.os.trans h.os, k.tape.trans h.tape, k.output.trans h.output, Nat.le_trans h.size k.size, fun i hi e => (k.block i (Nat.lt_of_lt_of_le hi h.size) e).trans (h.block i hi e)⟩
theorem grown_below {w1 w2 : World} (h : Below w1.heap.size w1 w2) (r : Option Nat) : w1.grownBy w2 r := ⟨h.os, h.tape, h.output, h.size, fun i hi _ => h.block i hi⟩
theorem below_grown {w1 w2 : World} {bm B : Nat} (h : w1.grownBy w2 (some bm)) (hB : B ≤ bm) (hs : B ≤ w1.heap.size) : Below B w1 w2 := ⟨h.os, h.tape, h.output, h.size, fun i hi => h.block i (by omega) (fun e => by have := Option.some.inj e; omega)⟩

/-! ### a list of bytes of one's own -/
theorem allowed_own {p b : T} {ws : List T} {A : Option Addr} {c : Nat} (i : Nat) (hi : i < p.length) (w : World) (ht : Texts w A c ws) :
    Calls Tryd.prog 86 #[.agg #[.string (str p), .string (str b), .slice A ws.length c], .int .i64 i] w fun e w' => ∃ A' c', e = .returned (.slice A' (allowedL b p[i]).length c') ∧ Kd.R (Kd.int .u8) 5 w' w.heap.size (fun k => w.heap.size ≤ k) (.slice A' (allowedL b p[i]).length c') (nums (allowedL b p[i])) ∧ Below w.heap.size w w' := by
  have h := PFake.impl_Scheme_allowed.calls 100 (str p) (str b) A c (ws.map str) i _ w ht.1 ht.2 (allowed_eq p b _ i hi)
  rw [List.length_map] at h
  refine h.mono ?_
  rintro e w' ⟨v, rfl, hR, hb⟩
  obtain ⟨A', cc, rfl⟩ := Kd.R_slice hR
  have hR2 := Kd.R_mono (Kd.R_bound hR) (fun k hk => hk.2.1)
  rw [List.length_map] at hR2
  exact ⟨A', cc, by rw [List.length_map], hR2, hb⟩

theorem list_at {l : T} {w1 W : World} {base : Nat} {A : Option Addr} {c : Nat} (h : Kd.R (Kd.int .u8) 5 w1 base (fun k => base ≤ k) (.slice A l.length c) (nums l)) (hm : ∀ k, base ≤ k → k < w1.heap.size → W.heap[k]? = w1.heap[k]?) (i : Nat) (hi : i < l.length) : ∃ ad, A = some ad ∧ W.cell? (ad.add i) = some (.int .u8 l[i].toNat) := by
  have h2 := (Kd.R_reads' (Kd.R_step h hm)).2.2
  obtain ⟨ad, e, hx⟩ := Kd.at_int h2 (i : Int) (by omega) (by rw [List.length_map]; omega)
  refine ⟨ad, e, ?_⟩
  rw [rd_nat _ i (by rw [List.length_map]; exact hi), Int.toNat_natCast] at hx
  simpa using hx

/-! ### the sum -/
theorem sum_filter (l : T) (q : UInt8 → Bool) (g : UInt8 → Nat) : ((l.filter q).map g).sum = (l.map fun c => if q c then g c else 0).sum := by
  induction l with
  | nil => rfl
  | cons x l ih =>
    by_cases h : q x = true
    · simp [List.filter_cons, h, ih]
    · simp [List.filter_cons, h, ih]
open Classical in
/-- the ways through one sign that is allowed -/
noncomputable def way (b : T) (ws : List T) (ps s : T) (c : UInt8) : Nat := if Clean ws (s ++ [c]) then cnt b ws ps (s ++ [c]) else 0
theorem cnt_way (b : T) (ws : List T) (x : UInt8) (ps s : T) : cnt b ws (x :: ps) s = ((allowedL b x).map (way b ws ps s)).sum := by
  unfold allowedL
  rw [sum_filter, cnt]
  congr 1
  apply List.map_congr_left
  intro c _
  unfold way
  by_cases h1 : c ∈ b <;> by_cases h2 : Clean ws (s ++ [c]) <;> simp [h1, h2]
theorem allowed_length (b : T) (x : UInt8) : (allowedL b x).length ≤ 26 := Nat.le_trans (List.length_filter_le _ _) (signsAt_length x)
/-- through the first k signs that are allowed -/
noncomputable def wayN (b : T) (ws : List T) (ps s al : T) (k : Nat) : Nat := ((al.take k).map (way b ws ps s)).sum
theorem wayN_succ (b : T) (ws : List T) (ps s al : T) (k : Nat) (h : k < al.length) : wayN b ws ps s al (k + 1) = wayN b ws ps s al k + way b ws ps s al[k] := by
  unfold wayN
  rw [List.take_succ_eq_append_getElem h, List.map_append, List.sum_append]
  simp
theorem wayN_le (b : T) (ws : List T) (x : UInt8) (ps s : T) (k : Nat) : wayN b ws ps s (allowedL b x) k ≤ cnt b ws (x :: ps) s := by
  rw [cnt_way]
  unfold wayN
  rw [List.map_take]
  exact sum_take_le _ _
theorem wayN_all (b : T) (ws : List T) (x : UInt8) (ps s : T) : wayN b ws ps s (allowedL b x) (allowedL b x).length = cnt b ws (x :: ps) s := by
  rw [cnt_way]; unfold wayN; rw [List.take_length]
end Go.Proofs.YtoieadofldkccaaDoor.Plates
