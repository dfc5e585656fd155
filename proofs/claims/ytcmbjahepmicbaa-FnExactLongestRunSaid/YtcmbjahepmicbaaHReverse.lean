/-
  The library's reversal of a list of lists: the lists come in the other order, and nothing else has changed.
-/
import Derived.Test.YtcmbjahepmicbaaWMore
import Derived.Test.YtcmbjahepmicbaaProg
import Derived.WalkKit
import Derived.RegionTactic
import Derived.Deep.LoopGhost
namespace Go.Proofs.Ytcmbjahepmicbaa.HReverse
open Go.RowKit Go.Proofs.YtcmbjahepmicbaaW.PrintWords
set_option linter.unusedVariables false
set_option linter.unusedSimpArgs false

variable {α : Type}

/-- two elements change places -/
def swap (xs : List α) (i j : Nat) (a b : α) : List α := (xs.set i b).set j a

theorem swap_length (xs : List α) (i j : Nat) (a b : α) : (swap xs i j a b).length = xs.length := by simp [swap]

theorem swap_get (xs : List α) (i j : Nat) (hij : i < j) (hj : j < xs.length) (m : Nat) : (swap xs i j xs[i] xs[j])[m]? = if m = i then xs[j]? else if m = j then xs[i]? else xs[m]? := by
  unfold swap
  rw [List.getElem?_set, List.getElem?_set, List.length_set]
  by_cases h1 : j = m
  · subst h1
    rw [if_pos rfl, if_pos hj, if_neg (by omega), if_pos rfl, List.getElem?_eq_getElem (by omega)]
  · rw [if_neg h1]
    by_cases h2 : i = m
    · subst h2
      rw [if_pos rfl, if_pos (by omega), if_pos rfl, List.getElem?_eq_getElem hj]
    · rw [if_neg h2, if_neg (by omega), if_neg (by omega)]

theorem take_one (l : List Value) (m : Nat) (x : Value) (h : l[m]? = some x) : (l.drop (m * 1)).take 1 = [x] := by
  obtain ⟨hm, e⟩ := List.getElem?_eq_some_iff.1 h
  rw [Nat.mul_one, List.drop_eq_getElem_cons hm, e]; rfl

theorem S_swap {d : Kd α} (hs : d.sz = 1) {e : Nat} {w : World} {base : Nat} {ok : Nat → Prop} {g n cap : Nat} {xs : List α} (h : Kd.S d e w base ok (.slice (some ⟨g, 0, none⟩) n cap) xs) (i j : Nat) (hij : i < j) (hj : j < xs.length) :
    ∃ u v : Value, w.cell? ⟨g, i, none⟩ = some u ∧ w.cell? ⟨g, j, none⟩ = some v ∧ w.frozen? ⟨g, i, none⟩ = false ∧ w.frozen? ⟨g, j, none⟩ = false ∧
      Kd.S d e ((w.setCell ⟨g, i, none⟩ v).setCell ⟨g, j, none⟩ u) base ok (.slice (some ⟨g, 0, none⟩) n cap) (swap xs i j xs[i] xs[j]) := by
  obtain ⟨_, _, _, _, _, fi, _⟩ := Kd.S_elem h xs[i] (i : Int) (by omega) (by have := (Kd.S_reads' h).1; omega)
  obtain ⟨_, _, _, _, _, fj, _⟩ := Kd.S_elem h xs[i] (j : Int) (by omega) (by have := (Kd.S_reads' h).1; omega)
  have fi := fi 0
  have fj := fj 0
  rw [Int.toNat_natCast, hs, Nat.mul_one, Nat.add_zero] at fi fj
  have hgo : (Value.slice (some ⟨g, 0, none⟩) n cap).ownBlock = some g := by simp [Value.ownBlock]
  have hn : n = xs.length := (Kd.S_reads' h).1
  subst hn
  obtain ⟨f, h0, inner, ho, hr⟩ := h
  have hl : inner.length = xs.length := by have := hr.1; rw [List.length_zipIdx] at this; rw [this]; show xs.length * d.sz = _; rw [hs, Nat.mul_one]
  have ho : w.ownsRow base e d.sz (.slice (some ⟨g, 0, none⟩) xs.length cap) xs.length inner := by
    have := ho; rw [List.length_zipIdx] at this; exact this
  have hi' : i < inner.length := by omega
  have hj' : j < inner.length := by omega
  have ci := ho.cells (g := g) hgo i inner[i] (List.getElem?_eq_getElem hi')
  have cj := ho.cells (g := g) hgo j inner[j] (List.getElem?_eq_getElem hj')
  rw [add_plain] at ci cj
  have ho1 := (ho.stored i inner[j]).1
  have ho2 := (ho1.stored j inner[i]).1
  refine ⟨inner[i], inner[j], ci, cj, fi, fj, fun k => if f k = i then j else if f k = j then i else f k, h0, swap inner i j inner[i] inner[j], ?_, ?_, fun m p hm => ?_⟩
  · rw [List.length_zipIdx, swap_length]; exact ho2
  · rw [List.length_zipIdx, swap_length, swap_length, hl]; show _ = xs.length * d.sz; rw [hs, Nat.mul_one]
  · rw [List.getElem?_zipIdx, Nat.zero_add] at hm
    obtain ⟨q, hq, rfl⟩ := Option.map_eq_some_iff.1 hm
    rw [swap_get xs i j hij hj m] at hq
    have ml : m < xs.length := by
      by_cases c1 : m = i
      · omega
      · by_cases c2 : m = j
        · omega
        · rw [if_neg c1, if_neg c2] at hq
          exact (List.getElem?_eq_some_iff.1 hq).1
    have old : ∀ (t : Nat) (x : α), xs[t]? = some x → d.M w base (fun k => (ok k ∧ some k ≠ some g) ∧ f k = t) x [inner.getD t (.int .i64 0)] := fun t x hx => by
      have ht : t < xs.length := (List.getElem?_eq_some_iff.1 hx).1
      have hM := hr.2 t (x, t) (Kd.zip_at hx)
      have e1 : (inner.drop (t * d.sz)).take d.sz = [inner.getD t (.int .i64 0)] := by
        rw [hs, take_one inner t inner[t] (List.getElem?_eq_getElem (by omega)), List.getD_eq_getElem?_getD, List.getElem?_eq_getElem (by omega)]; rfl
      have e2 : (inner.drop (t * (Kd.tag f d).sz)).take (Kd.tag f d).sz = [inner.getD t (.int .i64 0)] := e1
      rw [e2, hgo] at hM
      exact hM
    have moved : ∀ (t : Nat) (x : α) (b : Nat), xs[t]? = some x → (∀ k, f k = t → (if f k = i then j else if f k = j then i else f k) = b) →
        d.M ((w.setCell ⟨g, i, none⟩ inner[j]).setCell ⟨g, j, none⟩ inner[i]) base (fun k => (ok k ∧ some k ≠ some g) ∧ (if f k = i then j else if f k = j then i else f k) = b) x [inner.getD t (.int .i64 0)] := fun t x b hx hb =>
      d.M_mono (fun k hk => ⟨hk.1, hb k hk.2⟩) (d.M_move (fun k hk => by
        have kg : k ≠ g := fun e => hk.1.2 (by rw [e])
        rw [Below.heap_setCell _ ⟨g, j, none⟩ _ k kg, Below.heap_setCell _ ⟨g, i, none⟩ _ k kg]) (old t x hx))
    have goal : ∀ c, (swap inner i j inner[i] inner[j])[m]? = some c → d.M ((w.setCell ⟨g, i, none⟩ inner[j]).setCell ⟨g, j, none⟩ inner[i]) base (fun k => (ok k ∧ some k ≠ some g) ∧ (if f k = i then j else if f k = j then i else f k) = m) q [c] →
        (Kd.tag (fun k => if f k = i then j else if f k = j then i else f k) d).M ((w.setCell ⟨g, i, none⟩ inner[j]).setCell ⟨g, j, none⟩ inner[i]) base (fun k => ok k ∧ some k ≠ (Value.slice (some ⟨g, 0, none⟩) xs.length cap).ownBlock) (q, m) (((swap inner i j inner[i] inner[j]).drop (m * (Kd.tag (fun k => if f k = i then j else if f k = j then i else f k) d).sz)).take (Kd.tag (fun k => if f k = i then j else if f k = j then i else f k) d).sz) := fun c hc hM => by
      have e1 : ((swap inner i j inner[i] inner[j]).drop (m * d.sz)).take d.sz = [c] := by rw [hs]; exact take_one _ m c hc
      have e2 : ((swap inner i j inner[i] inner[j]).drop (m * (Kd.tag (fun k => if f k = i then j else if f k = j then i else f k) d).sz)).take (Kd.tag (fun k => if f k = i then j else if f k = j then i else f k) d).sz = [c] := e1
      rw [e2, hgo]
      exact hM
    have getD_at : ∀ t (ht : t < inner.length), inner.getD t (.int .i64 0) = inner[t] := fun t ht => by rw [List.getD_eq_getElem?_getD, List.getElem?_eq_getElem ht]; rfl
    by_cases c1 : m = i
    · rw [if_pos c1] at hq
      subst c1
      refine goal inner[j] (by rw [swap_get inner m j hij hj' m, if_pos rfl, List.getElem?_eq_getElem hj']) ?_
      have := moved j q m hq (fun k hk => by rw [if_neg (by omega), if_pos hk])
      rwa [getD_at j hj'] at this
    · by_cases c2 : m = j
      · rw [if_neg c1, if_pos c2] at hq
        subst c2
        refine goal inner[i] (by rw [swap_get inner i m hij hj' m, if_neg c1, if_pos rfl, List.getElem?_eq_getElem hi']) ?_
        have := moved i q m hq (fun k hk => by rw [if_pos hk])
        rwa [getD_at i hi'] at this
      · rw [if_neg c1, if_neg c2] at hq
        refine goal inner[m] (by rw [swap_get inner i j hij hj' m, if_neg c1, if_neg c2, List.getElem?_eq_getElem (by omega)]) ?_
        have := moved m q m hq (fun k hk => by rw [if_neg (by omega), if_neg (by omega)]; exact hk)
        rwa [getD_at m (by omega)] at this

/-- how far a list is turned: what lies before i and behind j has changed places -/
def Turned (xs zs : List α) (i j : Int) : Prop := zs.length = xs.length ∧ ∀ m : Nat, m < xs.length → zs[m]? = if (m : Int) < i ∨ j < m then xs[xs.length - 1 - m]? else xs[m]?

theorem Turned.start (xs : List α) : Turned xs xs 0 (xs.length - 1) := ⟨rfl, fun m hm => by rw [if_neg (by omega)]⟩

theorem Turned.stop {xs zs : List α} {i j : Int} (h : Turned xs zs i j) (h0 : i + j = xs.length - 1) (hij : j ≤ i) : zs = xs.reverse := by
  apply List.ext_getElem?
  intro m
  by_cases hm : m < xs.length
  · rw [h.2 m hm, List.getElem?_reverse hm]
    by_cases c : (m : Int) < i ∨ j < m
    · rw [if_pos c]
    · rw [if_neg c, show xs.length - 1 - m = m by omega]
  · have := h.1
    rw [List.getElem?_eq_none (by omega), List.getElem?_eq_none (by rw [List.length_reverse]; omega)]

theorem Turned.step {xs zs : List α} {i j : Nat} (h : Turned xs zs i j) (h0 : i + j + 1 = xs.length) (hij : i < j) (hj : j < zs.length) : Turned xs (swap zs i j zs[i] zs[j]) (i + 1) (j - 1) := by
  refine ⟨by rw [swap_length, h.1], fun m hm => ?_⟩
  have hi := h.2 i (by omega)
  have hj2 := h.2 j (by omega)
  rw [if_neg (by omega)] at hi hj2
  rw [swap_get zs i j hij hj m]
  by_cases c1 : m = i
  · subst c1
    rw [if_pos rfl, if_pos (by omega), hj2, show xs.length - 1 - m = j by omega]
  · rw [if_neg c1]
    by_cases c2 : m = j
    · subst c2
      rw [if_pos rfl, if_pos (by omega), hi, show xs.length - 1 - m = i by omega]
    · rw [if_neg c2, h.2 m hm]
      by_cases c3 : (m : Int) < i ∨ (j : Int) < m
      · rw [if_pos c3, if_pos (by omega)]
      · rw [if_neg c3, if_neg (by omega)]

abbrev Rows2 (w : World) (base : Nat) (v : Value) (xs : List (List Int)) : Prop := Kd.S (Kd.slice 3 (Kd.int .i64)) 34 w base (fun _ => True) v xs

theorem shape {w : World} {base g n cap : Nat} {xs : List (List Int)} (h : Rows2 w base (.slice (some ⟨g, 0, none⟩) n cap) xs) (i : Nat) (hi : i < n) (u : Value) (hu : w.cell? ⟨g, i, none⟩ = some u) : ∃ A l c, u = .slice A l c := by
  obtain ⟨oki, c, hcl, hM, hcell, -, -, -⟩ := Kd.S_elem h [] (i : Int) (by omega) (by omega)
  obtain ⟨x, rfl, hR⟩ := hM
  have hc := hcell 0 x rfl
  have e : (i : Int).toNat * (Kd.slice 3 (Kd.int .i64)).sz + 0 = i := by
    show (i : Int).toNat * 1 + 0 = i
    omega
  rw [e, hu] at hc
  obtain rfl := Option.some.inj hc
  obtain ⟨A, c, rfl⟩ := Kd.R_slice hR
  exact ⟨A, _, c, rfl⟩

set_option maxHeartbeats 2000000 in
theorem reverse_any (w0 w : World) (hB : Below w0.heap.size w0 w) (v : Value) (xs : List (List Int)) (hS : Rows2 w w0.heap.size v xs) :
    Calls Try.prog 54 #[v] w fun e w' => e = .returned (.tuple #[]) ∧ Rows2 w' w0.heap.size v xs.reverse ∧ Below w0.heap.size w0 w' := by
  by_cases z : xs.length = 0
  · have : xs = [] := List.length_eq_zero_iff.1 z
    subst this
    obtain ⟨A, c, rfl⟩ := Kd.S_slice hS
    have HS := Aside0.mk hS
    have HB := Aside0.mk hB
    clear hS hB z
    go_enter Try.func54, Try.ntmps54
    go_wp2
    refine wp_loop_rounds 1 ?_; rw [rounds_succ]
    go_wp2
    go_end0
    exact ⟨rfl, HS.out, HB.out⟩
  · obtain ⟨g, cap, rfl, hg1, hg2, -⟩ := Kd.S_form hS (by omega)
    have hn : xs.length ≤ 9223372036854775807 := by
      obtain ⟨inner, ho⟩ := Kd.S_own hS
      rcases ho.2 with ⟨hv, _⟩ | ⟨g', cap', cur, hv, _, _, hnc, hcm, _⟩
      · cases hv
      · unfold maxLen at hcm; omega
    obtain ⟨n, hl⟩ : ∃ n, n = xs.length := ⟨_, rfl⟩
    rw [← hl] at hS hn z ⊢
    have HS := Aside0.mk hS
    have HB := Aside0.mk hB
    have HL := Aside0.mk hl
    have n1 : 1 ≤ n := by omega
    clear hS hB hl z
    go_enter Try.func54, Try.ntmps54
    go_wp2
    go_loopg [2, 3] n (fun gg v2 v3 wr => ∃ (i : Nat) (j : Int) (zs : List (List Int)), v2 = .int .i64 i ∧ v3 = .int .i64 j ∧ i + j = n - 1 ∧ -1 ≤ j ∧ i ≤ n ∧ n - i ≤ gg ∧ Aside0 (Turned xs zs i j) ∧ Aside0 (Rows2 wr w0.heap.size (.slice (some ⟨g, 0, none⟩) n cap) zs) ∧ Aside0 (Below w0.heap.size w0 wr))
    case atStart => exact ⟨0, n - 1, xs, rfl, rfl, by omega, by omega, by omega, by omega, ⟨by have := Turned.start xs; rw [← HL.out] at this; exact this⟩, HS, HB⟩
    case round =>
      obtain ⟨i, j, zs, rfl, rfl, a1, a2, a3, a4, HT, HR, HB2⟩ := hrel
      by_cases hlt : (i : Int) < j
      · obtain ⟨q, rfl⟩ : ∃ q : Nat, j = q := ⟨j.toNat, by omega⟩
        have zl : zs.length = n := HT.out.1.trans HL.out.symm
        have hq : q < zs.length := by omega
        obtain ⟨u, v, cu, cv, fu, fv, hsw⟩ := S_swap (d := Kd.slice 3 (Kd.int .i64)) rfl HR.out i q (by omega) hq
        obtain ⟨ua, ul, uc, rfl⟩ := shape HR.out i (by omega) u cu
        obtain ⟨va, vl, vc, rfl⟩ := shape HR.out q (by omega) v cv
        have HW := Aside0.mk hsw
        have HT2 := Aside0.mk (HT.out.step (by have := HL.out; omega) (by omega) hq)
        clear hsw HT
        have i0 : (0 : Int) ≤ i := by omega
        have i1 : (i : Int) < n := by omega
        have q0 : (0 : Int) ≤ q := by omega
        have q1 : (q : Int) < n := by omega
        have hb3 : Aside0 (Below w0.heap.size w0 ((wr.setCell ⟨g, i, none⟩ (.slice va vl vc)).setCell ⟨g, q, none⟩ (.slice ua ul uc)).drew) := ⟨((HB2.out.setCell hg1 _).setCell hg1 _).drew⟩
        go_wp2
        go_region
        go_wp2
        go_roundg (n - (i + 1))
        case measure => omega
        case rel => exact ⟨i + 1, q - 1, _, by go_num, rfl, by omega, by omega, by omega, by omega, ⟨by have := HT2.out; push_cast; exact this⟩, ⟨Kd.S_drew HW.out⟩, hb3⟩
      · go_wp2
        go_end0
        refine ⟨rfl, ?_, HB2.out⟩
        rw [← HT.out.stop (by have := HL.out; omega) (by omega)]
        exact HR.out
end Go.Proofs.Ytcmbjahepmicbaa.HReverse
