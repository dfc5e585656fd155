/-
  Marks laid into every number of a list of lists, one behind the other: the lists behind the call are the marked ones, and nothing else has changed.
-/
import Derived.Test.YtmcgkjhfghgdlaaPFnExactBalancedStreetsx2
import Derived.Test.YtmcgkjhfghgdlaaNum
import Derived.Deep.LoopGhost
namespace Go.Proofs.Ytmcgkjhfghgdlaa.HMarks
open Go.RowKit Go.Proofs.YtmcgkjhfghgdlaaW.PrintWords Go.Proofs.Ytmcgkjhfghgdlaa.Num Go.Proofs.Ytmcgkjhfghgdlaa.PFnExactBalancedStreets
set_option linter.unusedVariables false
set_option linter.unusedSimpArgs false
theorem eqIntS_go (l : List Int) (hl : l.length ≤ 1000000000) (d : Nat) : ∀ (k : Nat) (i : Int), 0 ≤ i → i ≤ l.length → (l.length : Int) - i = d → d < k → laws_eqIntS.l0 k l l i = some true := by
  induction d with
  | zero =>
    intro k i a b c hk
    obtain ⟨k, rfl⟩ : ∃ m, k = m + 1 := ⟨k - 1, by omega⟩
    simp only [laws_eqIntS.l0]; rw [if_neg (by omega)]
  | succ d ih =>
    intro k i a b c hk
    obtain ⟨k, rfl⟩ : ∃ m, k = m + 1 := ⟨k - 1, by omega⟩
    simp only [laws_eqIntS.l0]
    rw [if_pos (by omega), if_pos a, if_pos (by omega), wi (by omega) (by omega)]
    exact ih k (i + 1) (by omega) (by omega) (by omega) (by omega)

/-- a list equals itself -/
theorem eqIntS_self (l : List Int) (hl : l.length ≤ 1000000000) (k : Nat) (hk : l.length < k) : laws_eqIntS.f k l l = some true := by
  unfold laws_eqIntS.f
  rw [if_pos rfl]
  exact eqIntS_go l hl l.length k 0 (by omega) (by omega) (by omega) hk

theorem markIntS_go (n : Nat) (hn : n ≤ 1000000000) (d : Nat) : ∀ (k : Nat) (xs : List Int) (m i : Int), xs.length = n → 0 ≤ m → m + (n - i) ≤ 2000000000 → 0 ≤ i → i ≤ n → (n : Int) - i = d → d < k →
    ∃ ys, laws_markIntS.l0 k xs m i = some (m + (n - i), ys) ∧ ys.length = n ∧ (∀ j : Nat, (j : Int) < i → ys.getD j 0 = xs.getD j 0) ∧ (∀ j : Nat, i ≤ j → j < n → ys.getD j 0 = m + (j - i)) := by
  induction d with
  | zero =>
    intro k xs m i hx m0 m1 a b c hk
    obtain ⟨k, rfl⟩ : ∃ m, k = m + 1 := ⟨k - 1, by omega⟩
    refine ⟨xs, ?_, hx, fun j _ => rfl, fun j p q => by omega⟩
    simp only [laws_markIntS.l0]
    rw [if_neg (by omega), show m + ((n : Int) - i) = m by omega]
  | succ d ih =>
    intro k xs m i hx m0 m1 a b c hk
    obtain ⟨k, rfl⟩ : ∃ m, k = m + 1 := ⟨k - 1, by omega⟩
    simp only [laws_markIntS.l0]
    rw [if_pos (by omega), if_pos a, wi (x := m + 1) (by omega) (by omega), wi (x := i + 1) (by omega) (by omega)]
    obtain ⟨ys, e, l, p, q⟩ := ih k (xs.set i.toNat m) (m + 1) (i + 1) (by simpa using hx) (by omega) (by omega) (by omega) (by omega) (by omega) (by omega)
    refine ⟨ys, by rw [e]; congr 2; omega, l, fun j hj => ?_, fun j hj hj2 => ?_⟩
    · rw [p j (by omega)]
      simp [List.getD_eq_getElem?_getD, List.getElem?_set, show ¬ i.toNat = j by omega]
    · by_cases e2 : (j : Int) = i
      · rw [p j (by omega)]
        have : i.toNat = j := by omega
        simp [List.getD_eq_getElem?_getD, List.getElem?_set, this, hx, hj2]
        omega
      · rw [q j (by omega) hj2]; omega

theorem heldIntS_go (ys : List Int) (hn : ys.length ≤ 1000000000) (d : Nat) : ∀ (k : Nat) (m i : Int), 0 ≤ m → m + (ys.length - i) ≤ 2000000000 → 0 ≤ i → i ≤ ys.length → (ys.length : Int) - i = d → d < k →
    (∀ j : Nat, i ≤ j → j < ys.length → ys.getD j 0 = m + (j - i)) → laws_heldIntS.l0 k ys m i = some (m + (ys.length - i)) := by
  induction d with
  | zero =>
    intro k m i m0 m1 a b c hk q
    obtain ⟨k, rfl⟩ : ∃ m, k = m + 1 := ⟨k - 1, by omega⟩
    simp only [laws_heldIntS.l0]
    rw [if_neg (by omega), show m + ((ys.length : Int) - i) = m by omega]
  | succ d ih =>
    intro k m i m0 m1 a b c hk q
    obtain ⟨k, rfl⟩ : ∃ m, k = m + 1 := ⟨k - 1, by omega⟩
    simp only [laws_heldIntS.l0]
    have h0 : rd ys i = m := by
      unfold rd
      rw [q i.toNat (by omega) (by omega)]; omega
    rw [if_pos (by omega), if_pos a, if_pos h0, wi (x := m + 1) (by omega) (by omega), wi (x := i + 1) (by omega) (by omega),
      ih k (m + 1) (i + 1) (by omega) (by omega) (by omega) (by omega) (by omega) (by omega) (fun j p r => by rw [q j (by omega) r]; omega)]
    congr 1; omega

/-- the marks that are laid into a list are found in it -/
theorem marks_held (xs : List Int) (hl : xs.length ≤ 1000000000) (k : Nat) (hk : xs.length < k) :
    ∃ ys, laws_markIntS.f k xs 1 = some (1 + (xs.length : Int), ys) ∧ ∀ k', xs.length < k' → laws_heldIntS.f k' ys 1 = some (1 + (xs.length : Int)) := by
  unfold laws_markIntS.f
  obtain ⟨ys, e, l, p, q⟩ := markIntS_go xs.length hl xs.length k xs 1 0 rfl (by omega) (by omega) (by omega) (by omega) (by omega) hk
  refine ⟨ys, by rw [e, Int.sub_zero], fun k' hk' => ?_⟩
  unfold laws_heldIntS.f
  rw [heldIntS_go ys (by omega) ys.length k' 1 0 (by omega) (by omega) (by omega) (by omega) (by omega) (by omega) (fun j a b => q j a (by omega)), l, Int.sub_zero]

/-- the marks laid from m on: the next mark, and the lists behind it -/
def markAll (k : Nat) : Int → List (List Int) → Option (Int × List (List Int))
  | m, [] => some (m, [])
  | m, x :: xs => (laws_markIntS.f k x m).bind fun r => (markAll k r.1 xs).bind fun s => some (s.1, r.2 :: s.2)

abbrev Rows2 (w : World) (base : Nat) (v : Value) (xs : List (List Int)) : Prop := Kd.S (Kd.slice 3 (Kd.int .i64)) 25 w base (fun _ => True) v xs

theorem one_round {k : Nat} {w0 W : World} {g n cap : Nat} {zs : List (List Int)} (hB : Below w0.heap.size w0 W) (h : Rows2 W w0.heap.size (.slice (some ⟨g, 0, none⟩) n cap) zs) (i : Nat) (hi : i < n) (m m1 : Int) (y : List Int)
    (hm : laws_markIntS.f k (zs.getD i []) m = some (m1, y)) :
    ∃ u : Value, W.cell? ⟨g, i, none⟩ = some u ∧ Calls Try.prog 17 #[u, .int .i64 m] W fun e w' => e = .returned (.int .i64 m1) ∧ Rows2 w' w0.heap.size (.slice (some ⟨g, 0, none⟩) n cap) (zs.set i y) ∧ Below w0.heap.size w0 w' := by
  obtain ⟨oki, c, hcl, hM, hcell, hoki, hH⟩ := Kd.S_lend h [] (i : Int) (by omega) (by omega)
  obtain ⟨u, rfl, hR⟩ := hM
  have hc := hcell 0 u rfl
  have e : (i : Int).toNat * (Kd.slice 3 (Kd.int .i64)).sz + 0 = i := by
    show (i : Int).toNat * 1 + 0 = i
    omega
  rw [e] at hc
  rw [Int.toNat_natCast] at hR
  refine ⟨u, hc, (laws_markIntS.calls k oki u (zs.getD i []) m m1 y w0 W hB hR hm).mono ?_⟩
  rintro e w' ⟨rfl, hR', hb', hk⟩
  refine ⟨rfl, ?_, hb'⟩
  have h1 := Kd.H_kept (Kd.H_widen hH) hk (fun k _ hn hs => hn (Or.inl hs))
  have h2 := Kd.H_back (okp := fun k => oki k ∨ W.heap.size ≤ k) h1 (x' := y) ⟨u, rfl, hR'⟩ (fun k hk => hk.elim Or.inl (fun h => Or.inr ⟨trivial, h⟩))
  rwa [Int.toNat_natCast] at h2

set_option maxHeartbeats 2000000 in
theorem markIntSS_any (k : Nat) (w0 w : World) (hB : Below w0.heap.size w0 w) (v : Value) (xs ys : List (List Int)) (m mf : Int) (hn : xs.length ≤ 1000000000) (hS : Rows2 w w0.heap.size v xs) (h : markAll k m xs = some (mf, ys)) :
    Calls Try.prog 22 #[v, .int .i64 m] w fun e w' => e = .returned (.int .i64 mf) ∧ Rows2 w' w0.heap.size v ys ∧ Below w0.heap.size w0 w' := by
  by_cases z : xs.length = 0
  · have : xs = [] := List.length_eq_zero_iff.1 z
    subst this
    simp only [markAll, Option.some.injEq, Prod.mk.injEq] at h
    obtain ⟨rfl, rfl⟩ := h
    obtain ⟨A, c, rfl⟩ := Kd.S_slice hS
    have HS := Aside0.mk hS
    have HB := Aside0.mk hB
    clear hS hB z hn
    go_enter Try.func22, Try.ntmps22
    go_wp2
    refine wp_loop_rounds 1 ?_; rw [rounds_succ]
    go_wp2
    go_ret
    exact ⟨rfl, HS.out, HB.out⟩
  · obtain ⟨g, cap, rfl, hg1, hg2, -⟩ := Kd.S_form hS (by omega)
    obtain ⟨n, hl⟩ : ∃ n, n = xs.length := ⟨_, rfl⟩
    rw [← hl] at hS hn z ⊢
    have HS := Aside0.mk hS
    have HB := Aside0.mk hB
    have HM := Aside0.mk h
    have HL := Aside0.mk hl
    clear hS hB h hl z
    go_enter Try.func22, Try.ntmps22
    go_wp2
    go_loopg [1, 5] n (fun gg v1 v5 wr => ∃ (i : Nat) (p : Int) (zs rest : List (List Int)), v1 = .int .i64 p ∧ v5 = .int .i64 i ∧ i ≤ n ∧ n - i ≤ gg ∧ Aside0 (zs.length = n) ∧ Aside0 (markAll k p (zs.drop i) = some (mf, rest)) ∧ Aside0 (ys = zs.take i ++ rest) ∧ Aside0 (Rows2 wr w0.heap.size (.slice (some ⟨g, 0, none⟩) n cap) zs) ∧ Aside0 (Below w0.heap.size w0 wr))
    case atStart => exact ⟨0, m, xs, ys, rfl, rfl, by omega, by omega, ⟨HL.out.symm⟩, ⟨by simpa using HM.out⟩, ⟨by simp⟩, HS, HB⟩
    case round =>
      obtain ⟨i, p, zs, rest, rfl, rfl, a1, a2, HZ, HA, HY, HR, HB2⟩ := hrel
      by_cases hlt : i < n
      · have hi : i < zs.length := by rw [HZ.out]; exact hlt
        obtain ⟨m1, y, tail, e1, e2, e3⟩ : ∃ m1 y tail, laws_markIntS.f k (zs.getD i []) p = some (m1, y) ∧ markAll k m1 (zs.drop (i + 1)) = some (mf, tail) ∧ rest = y :: tail := by
          have H := HA.out
          rw [List.drop_eq_getElem_cons hi] at H
          simp only [markAll] at H
          obtain ⟨r, h1, H⟩ := Option.bind_eq_some_iff.1 H
          obtain ⟨s, h2, H⟩ := Option.bind_eq_some_iff.1 H
          simp only [Option.some.injEq, Prod.mk.injEq] at H
          obtain ⟨rfl, rfl⟩ := H
          refine ⟨r.1, r.2, s.2, ?_, h2, rfl⟩
          rw [List.getD_eq_getElem?_getD, List.getElem?_eq_getElem hi]; exact h1
        obtain ⟨u, hc, hcall⟩ := one_round HB2.out HR.out i hlt p m1 y e1
        have HC := Aside0.mk hcall
        have E2 := Aside0.mk e2
        have E3 := Aside0.mk e3
        clear hcall e1 e2 e3 hi
        go_wp2_with (go_at_call 17; refine HC.out.mono ?_; rintro e w' ⟨rfl, hR', hb'⟩)
        go_roundg (n - (i + 1))
        case measure => omega
        case rel =>
          refine ⟨i + 1, m1, zs.set i y, tail, rfl, by go_num, by omega, by omega, ⟨by rw [List.length_set]; exact HZ.out⟩, ⟨?_⟩, ⟨?_⟩, ⟨hR'⟩, ⟨hb'⟩⟩
          · rw [List.drop_set_of_lt (by omega)]; exact E2.out
          · rw [HY.out, E3.out, List.take_succ_eq_append_getElem (by rw [List.length_set, HZ.out]; exact hlt), List.take_set_of_le (Nat.le_refl _), List.getElem_set_self]
            simp
      · have : i = n := by omega
        subst this
        go_wp2
        go_ret
        have e := HA.out
        rw [List.drop_eq_nil_of_le (by rw [HZ.out]; exact Nat.le_refl _)] at e
        simp only [markAll, Option.some.injEq, Prod.mk.injEq] at e
        obtain ⟨rfl, rfl⟩ := e
        refine ⟨rfl, ?_, HB2.out⟩
        have e := HY.out
        rw [List.append_nil, List.take_of_length_le (by rw [HZ.out]; exact Nat.le_refl _)] at e
        rw [e]; exact HR.out

/-! ### the marks that are laid are found -/

theorem eqIntSS_go (k : Nat) (l : List (List Int)) (hl : l.length ≤ 1000000000) (hin : ∀ x ∈ l, x.length ≤ 2) (d : Nat) : ∀ (j : Nat) (i : Int), 0 ≤ i → i + d = l.length → d + 4 < j → laws_eqIntSS.l0 j l l i = some true := by
  induction d with
  | zero =>
    intro j i a b c
    obtain ⟨j, rfl⟩ : ∃ m, j = m + 1 := ⟨j - 1, by omega⟩
    simp only [laws_eqIntSS.l0]; rw [if_neg (by omega)]
  | succ d ih =>
    intro j i a b c
    obtain ⟨j, rfl⟩ : ∃ m, j = m + 1 := ⟨j - 1, by omega⟩
    have hi : i.toNat < l.length := by omega
    have e : rd_L1 l i = l[i.toNat] := by
      unfold rd_L1
      rw [List.getD_eq_getElem?_getD, List.getElem?_eq_getElem hi]; rfl
    have h2 := hin _ (List.getElem_mem hi)
    simp only [laws_eqIntSS.l0]
    rw [if_pos (by omega), if_pos a, if_pos (by omega), e, eqIntS_self _ (by omega) j (by omega)]
    simp only [Option.bind_some, if_true]
    rw [wi (by omega) (by omega)]
    exact ih j (i + 1) (by omega) (by omega) (by omega)

theorem eqIntSS_self (l : List (List Int)) (hl : l.length ≤ 1000000) (hin : ∀ x ∈ l, x.length = 2) : laws_eqIntSS.f 2000000 l l = some true := by
  unfold laws_eqIntSS.f
  rw [if_pos rfl]
  exact eqIntSS_go 2000000 l (by omega) (fun x hx => by rw [hin x hx]; omega) l.length 2000000 0 (by omega) (by omega) (by omega)

/-- lists in which the marks from m on stand, two in each -/
inductive Marked : Int → List (List Int) → Int → Prop
  | nil (m : Int) : Marked m [] m
  | cons {m mf : Int} {y : List Int} {ys : List (List Int)} : (∀ k, 2 < k → laws_heldIntS.f k y m = some (m + 2)) → Marked (m + 2) ys mf → Marked m (y :: ys) mf

theorem marks_at (x : List Int) (m : Int) (hx : x.length = 2) (m0 : 0 ≤ m) (m1 : m ≤ 1000000000) (k : Nat) (hk : 2 < k) : ∃ y, laws_markIntS.f k x m = some (m + 2, y) ∧ ∀ k', 2 < k' → laws_heldIntS.f k' y m = some (m + 2) := by
  unfold laws_markIntS.f
  obtain ⟨y, e, l, p, q⟩ := markIntS_go 2 (by omega) 2 k x m 0 hx m0 (by omega) (by omega) (by omega) (by omega) hk
  refine ⟨y, by rw [e]; simp, fun k' hk' => ?_⟩
  unfold laws_heldIntS.f
  rw [heldIntS_go y (by omega) 2 k' m 0 m0 (by omega) (by omega) (by omega) (by omega) (by omega) (fun j a b => q j a (by omega)), l]; simp

theorem all_marks (k : Nat) (hk : 2 < k) (xs : List (List Int)) : ∀ (m : Int), (∀ x ∈ xs, x.length = 2) → 0 ≤ m → m + 2 * xs.length ≤ 1000000000 → ∃ ys, markAll k m xs = some (m + 2 * xs.length, ys) ∧ ys.length = xs.length ∧ Marked m ys (m + 2 * xs.length) := by
  induction xs with
  | nil => intro m _ _ _; exact ⟨[], by simp [markAll], rfl, by simpa using Marked.nil m⟩
  | cons x xs ih =>
    intro m h2 m0 m1
    simp only [List.length_cons] at m1 ⊢
    obtain ⟨y, e, hh⟩ := marks_at x m (h2 x (List.mem_cons_self)) m0 (by omega) k hk
    obtain ⟨ys, e2, l, M⟩ := ih (m + 2) (fun z hz => h2 z (List.mem_cons_of_mem _ hz)) (by omega) (by omega)
    have s : m + 2 + 2 * (xs.length : Int) = m + 2 * ((xs.length + 1 : Nat) : Int) := by push_cast; omega
    rw [s] at e2 M
    refine ⟨y :: ys, ?_, by simp [l], .cons hh M⟩
    simp only [markAll, e, Option.bind_some, e2]

theorem held_go {m mf : Int} {ys : List (List Int)} (M : Marked m ys mf) : ∀ (k : Nat) (zs : List (List Int)) (i : Nat), zs.drop i = ys → zs.length ≤ 1000000000 → 0 ≤ m → ys.length + 4 < k → laws_heldIntSS.l0 k zs m i = some mf ∧ m ≤ mf := by
  induction M with
  | nil m =>
    intro k zs i hd hz m0 hk
    obtain ⟨k, rfl⟩ : ∃ j, k = j + 1 := ⟨k - 1, by omega⟩
    have : zs.length ≤ i := List.drop_eq_nil_iff.1 hd
    simp only [laws_heldIntSS.l0]
    rw [if_neg (by omega)]; exact ⟨rfl, by omega⟩
  | @cons m mf y ys hy M ih =>
    intro k zs i hd hz m0 hk
    obtain ⟨k, rfl⟩ : ∃ j, k = j + 1 := ⟨k - 1, by omega⟩
    have hi : i < zs.length := by
      by_cases c : i < zs.length
      · exact c
      · rw [List.drop_eq_nil_of_le (by omega)] at hd; cases hd
    rw [List.drop_eq_getElem_cons hi, List.cons.injEq] at hd
    obtain ⟨e1, e2⟩ := hd
    have e : rd_L1 zs i = y := by
      unfold rd_L1
      rw [Int.toNat_natCast, List.getD_eq_getElem?_getD, List.getElem?_eq_getElem hi, ← e1]; rfl
    simp only [List.length_cons] at hk
    obtain ⟨a, b⟩ := ih k zs (i + 1) e2 hz (by omega) (by omega)
    simp only [laws_heldIntSS.l0]
    rw [if_pos (by omega), if_pos (by omega), e, hy k (by omega)]
    simp only [Option.bind_some]
    rw [if_neg (by omega), wi (by omega) (by omega)]
    push_cast at a
    exact ⟨a, by omega⟩

/-- all that the law asks of lists of two numbers each -/
theorem marks_told (l : List (List Int)) (hl : l.length ≤ 1000000) (h2 : ∀ x ∈ l, x.length = 2) : ∃ (mf : Int) (ys : List (List Int)), 1 ≤ mf ∧ ys.length = l.length ∧ markAll 10 1 l = some (mf, ys) ∧ laws_heldIntSS.f 2000000 ys 1 = some mf := by
  obtain ⟨ys, e, hl2, M⟩ := all_marks 10 (by omega) l 1 h2 (by omega) (by omega)
  obtain ⟨a, b⟩ := held_go M 2000000 ys 0 rfl (by omega) (by omega) (by omega)
  exact ⟨_, ys, b, hl2, e, a⟩

/-! ### the calls, as the law meets them -/

/-- a list of lists in memory of the call's own, and whether it is told -/
def Out (l : List (List Int)) (b : Bool) (w : World) (e : Ending) (w' : World) : Prop :=
  ∃ A c, e = .returned (.tuple #[.slice A l.length c, .bool b]) ∧ Aside0 (Rows2 w' w.heap.size (.slice A l.length c) l) ∧ Aside0 (Below w.heap.size w w')

theorem out_of {l : List (List Int)} {b : Bool} {w : World} {f : Nat} {args : Array Value}
    (h : Calls Try.prog f args w fun e w' => ∃ v : Value, e = .returned (.tuple #[v, .bool b]) ∧ Rows2 w' w.heap.size v l ∧ Below w.heap.size w w') : Calls Try.prog f args w (Out l b w) :=
  h.mono fun e w' ⟨v, he, hS, hb⟩ => by
    obtain ⟨A, c, rfl⟩ := Kd.S_slice hS
    exact ⟨A, c, he, ⟨hS⟩, ⟨hb⟩⟩

theorem equal_any {l : List (List Int)} (hl : l.length ≤ 1000000) (h2 : ∀ x ∈ l, x.length = 2) {A0 A1 : Option Addr} {c0 c1 b0 b1 : Nat} (w : World) (h0 : Aside0 (Rows2 w b0 (.slice A0 l.length c0) l)) (h1 : Aside0 (Rows2 w b1 (.slice A1 l.length c1) l)) :
    Calls Try.prog 21 #[.slice A0 l.length c0, .slice A1 l.length c1] w fun e w' => e = .returned (.bool true) ∧ Drawn0 w w' :=
  laws_eqIntSS.calls 2000000 A0 c0 l A1 c1 l true w (Kd.S_reads' h0.out).2.2 (Kd.S_reads' h0.out).2.1 (Kd.S_reads' h1.out).2.2 (Kd.S_reads' h1.out).2.1 (eqIntSS_self l hl h2)

theorem held_any {n : Nat} {ys : List (List Int)} {mf : Int} (hy : Aside0 (laws_heldIntSS.f 2000000 ys 1 = some mf)) {A : Option Addr} {c b : Nat} (w : World) (h : Aside0 (Rows2 w b (.slice A n c) ys)) :
    Calls Try.prog 23 #[.slice A n c, .int .i64 1] w fun e w' => e = .returned (.int .i64 mf) ∧ Drawn0 w w' := by
  obtain ⟨rfl, hc, hC⟩ := Kd.S_reads' h.out
  exact laws_heldIntSS.calls 2000000 A c ys 1 mf w hC hc hy.out

theorem marked_any {l ys : List (List Int)} {mf : Int} (hl : l.length ≤ 1000000) (hm : Aside0 (markAll 10 1 l = some (mf, ys))) {A : Option Addr} {c : Nat} {w0 : World} (w : World) (hB : Aside0 (Below w0.heap.size w0 w)) (h : Aside0 (Rows2 w w0.heap.size (.slice A l.length c) l)) :
    Calls Try.prog 22 #[.slice A l.length c, .int .i64 1] w fun e w' => e = .returned (.int .i64 mf) ∧ Aside0 (Rows2 w' w0.heap.size (.slice A l.length c) ys) ∧ Aside0 (Below w0.heap.size w0 w') :=
  (markIntSS_any 10 w0 w hB.out _ l ys 1 mf (by omega) h.out hm.out).mono fun e w' ⟨he, a, b⟩ => ⟨he, ⟨a⟩, ⟨b⟩⟩
end Go.Proofs.Ytmcgkjhfghgdlaa.HMarks
