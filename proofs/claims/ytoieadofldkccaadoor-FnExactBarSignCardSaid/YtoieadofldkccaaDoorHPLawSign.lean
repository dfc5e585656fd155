/-
  Plates: the law BarSign.
-/
import Derived.Test.YtoieadofldkccaaDoorHPBarBoth
namespace Go.Proofs.YtoieadofldkccaaDoor.Plates
open Go.RowKit Go.Proofs.YtoieadofldkccaaDoorW.PrintWords Go.Proofs.YtoieadofldkccaaDoorW.PrintLast Go.Proofs.YtoieadofldkccaaDoorW.PrintMore Go.Proofs.YtoieadofldkccaaDoor.PFnExactCountBeginning Go.Proofs.YtoieadofldkccaaDoor.PBar
open PFake (ML ml_below)
set_option linter.unusedVariables false
set_option linter.unusedSimpArgs false

theorem row_ne {A : Option Addr} {k : Nat} (h : ∀ ad, A = some ad → ad.block ≠ k) : some k ≠ A.map (·.block) := by
  cases A with
  | none => simp
  | some ad => simp only [Option.map_some, ne_eq, Option.some.injEq]; exact fun e => h ad rfl e.symm
theorem row_at {A : Option Addr} {k : Nat} (h : A.map (·.block) = some k) : ∃ ad, A = some ad ∧ ad.block = k := by
  cases A with
  | none => cases h
  | some ad => exact ⟨ad, rfl, by simpa using h⟩
theorem Own.lt {w : World} {base : Nat} {A : Option Addr} {c : Nat} {ws : List T} (h : Own w base A c ws) : ∀ ad, A = some ad → ad.block < w.heap.size := by
  rintro ad rfl
  rcases h.row.2 with ⟨e, e2⟩ | ⟨g, cap, cur, e, hg, hx, _⟩
  · cases e
  · injection e with e1
    injection e1 with e1
    subst e1
    exact (Array.getElem?_eq_some_iff.1 hx).1
theorem Own.grown {w W : World} {base : Nat} {A : Option Addr} {c : Nat} {ws : List T} {r : Option Nat} (h : Own w base A c ws) (hg : w.grownBy W r) (hne : ∀ ad, A = some ad → some ad.block ≠ r) : Own W base A c ws :=
  h.of_blk (fun ad e => hg.block _ (h.lt ad e) (hne ad e))
abbrev boxA (p b : T) (A : Option Addr) (n c : Nat) : Obj := .cells #[.string (str p), .string (str b), .slice A n c] 24 (0, 0)
theorem box_lt {W : World} {g : Nat} {o : Obj} (h : W.heap[g]? = some o) : g < W.heap.size := (Array.getElem?_eq_some_iff.1 h).1

/-- the argument's box, the answer w0 and its box -/
structure Fa (w W : World) (p b q d : T) (ws us : List T) (A A4 : Option Addr) (c c4 n4 : Nat) : Prop where
  bl : Below w.heap.size w W
  x2 : W.heap[w.heap.size]? = some (boxA p b A ws.length c)
  x4 : W.heap[n4]? = some (boxS q d A4 us.length c4)
  o4 : Own W w.heap.size A4 c4 us
  l4 : ∀ ad, A4 = some ad → ad.block < n4
  n : w.heap.size < n4
/-- x0 and its box -/
structure Fb (W : World) (p b : T) (ws : List T) (A5 : Option Addr) (c5 n4 n5 : Nat) : Prop where
  x5 : W.heap[n5]? = some (boxS p b A5 ws.length c5)
  o5 : Own W (n4 + 1) A5 c5 ws
  l5 : ∀ ad, A5 = some ad → ad.block < n5
/-- g0 and its box -/
structure Fc (W : World) (q d : T) (us L : List T) (A6 : Option Addr) (c6 n5 n6 : Nat) : Prop where
  x6 : W.heap[n6]? = some (boxS q d A6 us.length c6)
  o6 : Own W (n5 + 1) A6 c6 L
  l6 : ∀ ad, A6 = some ad → ad.block < n6
section
variable {w W W' : World} {p b q d : T} {ws us L : List T} {A A4 A5 A6 : Option Addr} {c c4 c5 c6 n4 n5 n6 : Nat} {r : Option Nat}
theorem Fa.below (h : Fa w W p b q d ws us A A4 c c4 n4) (hb : Below W.heap.size W W') : Fa w W' p b q d ws us A A4 c c4 n4 :=
  ⟨h.bl.trans (hb.mono h.bl.size), below_box hb h.x2, below_box hb h.x4, h.o4.below hb, h.l4, h.n⟩
theorem Fb.below (h : Fb W p b ws A5 c5 n4 n5) (hb : Below W.heap.size W W') : Fb W' p b ws A5 c5 n4 n5 := ⟨below_box hb h.x5, h.o5.below hb, h.l5⟩
theorem Fc.below (h : Fc W q d us L A6 c6 n5 n6) (hb : Below W.heap.size W W') : Fc W' q d us L A6 c6 n5 n6 := ⟨below_box hb h.x6, h.o6.below hb, h.l6⟩
theorem Fa.grown (h : Fa w W p b q d ws us A A4 c c4 n4) (hg : W.grownBy W' r) (hr : ∀ k, r = some k → n4 < k) : Fa w W' p b q d ws us A A4 c c4 n4 := by
  have hn := h.n
  have hne : ∀ k, k ≤ n4 → some k ≠ r := fun k hk e => by have := hr k e.symm; omega
  refine ⟨⟨hg.os.trans h.bl.os, hg.tape.trans h.bl.tape, hg.output.trans h.bl.output, Nat.le_trans h.bl.size hg.size, fun k hk => (hg.block k (Nat.lt_of_lt_of_le hk h.bl.size) (hne k (by omega))).trans (h.bl.block k hk)⟩, (hg.block _ (box_lt h.x2) (hne _ (by omega))).trans h.x2, (hg.block _ (box_lt h.x4) (hne _ (Nat.le_refl _))).trans h.x4, h.o4.grown hg (fun ad e => hne _ (Nat.le_of_lt (h.l4 ad e))), h.l4, h.n⟩
theorem Fc.grown (h : Fc W q d us L A6 c6 n5 n6) (hg : W.grownBy W' r) (h56 : n5 < n6) (hr : ∀ k, r = some k → k < n5) : Fc W' q d us L A6 c6 n5 n6 :=
  ⟨(hg.block _ (box_lt h.x6) (fun e => by have := hr _ e.symm; omega)).trans h.x6, h.o6.grown hg (fun ad e e2 => by have := hr _ e2.symm; have := (h.o6.flat ad e).2.2; omega), h.l6⟩
theorem Fc.marked {L' : List T} (h : Fc W q d us L A6 c6 n5 n6) (hg : W.grownBy W' (A6.map (·.block))) (ho : Own W' (n5 + 1) A6 c6 L') : Fc W' q d us L' A6 c6 n5 n6 :=
  ⟨(hg.block _ (box_lt h.x6) (row_ne fun ad e => by have := h.l6 ad e; omega)).trans h.x6, ho, h.l6⟩
end

theorem fa_start {w W : World} {p b q d : T} {ws us : List T} {A A4 : Option Addr} {c c4 : Nat} (ho : Own W w.heap.size A4 c4 us) (hl : ∀ ad, A4 = some ad → ad.block < W.heap.size) (hb : Below w.heap.size w W) (hx : W.heap[w.heap.size]? = some (boxA p b A ws.length c)) :
    Fa w (W.alloc (.cells #[.string (str q), .string (str d), .slice A4 us.length c4] 28)) p b q d ws us A A4 c c4 W.heap.size :=
  ⟨hb.alloc hb.size _, al_old _ _ _ _ hx, al_new _ _ _ rfl, ho.below ((Below.refl _ _).alloc (Nat.le_refl _) _), hl, box_lt hx⟩
theorem fb_start {W : World} {p b : T} {ws : List T} {A5 : Option Addr} {c5 n4 : Nat} (ho : Own W (n4 + 1) A5 c5 ws) (hl : ∀ ad, A5 = some ad → ad.block < W.heap.size) :
    Fb (W.alloc (.cells #[.string (str p), .string (str b), .slice A5 ws.length c5] 28)) p b ws A5 c5 n4 W.heap.size :=
  ⟨al_new _ _ _ rfl, ho.below ((Below.refl _ _).alloc (Nat.le_refl _) _), hl⟩
theorem fc_start {W : World} {q d : T} {us : List T} {A6 : Option Addr} {c6 n5 : Nat} (ho : Own W (n5 + 1) A6 c6 us) (hl : ∀ ad, A6 = some ad → ad.block < W.heap.size) :
    Fc (W.alloc (.cells #[.string (str q), .string (str d), .slice A6 us.length c6] 28)) q d us us A6 c6 n5 W.heap.size :=
  ⟨al_new _ _ _ rfl, ho.below ((Below.refl _ _).alloc (Nat.le_refl _) _), hl⟩
theorem six_cells {w W : World} {p b q d : T} {ws us : List T} {A A4 A5 : Option Addr} {c c4 c5 n4 n5 : Nat} (hb : Fb W p b ws A5 c5 n4 n5) (ha : Fa w W p b q d ws us A A4 c c4 n4) :
    W.cell? ⟨n5, 0, none⟩ = some (.string (str p)) ∧ W.cell? ⟨n5, 1, none⟩ = some (.string (str b)) ∧ W.cell? ⟨n5, 2, none⟩ = some (.slice A5 ws.length c5) ∧ W.cell? ⟨w.heap.size, 0, none⟩ = some (.string (str p)) ∧ W.cell? ⟨w.heap.size, 1, none⟩ = some (.string (str b)) ∧ W.cell? ⟨w.heap.size, 2, none⟩ = some (.slice A ws.length c) :=
  ⟨(box3_cells hb.x5).1, (box3_cells hb.x5).2.1, (box3_cells hb.x5).2.2, (box3_cells ha.x2).1, (box3_cells ha.x2).2.1, (box3_cells ha.x2).2.2⟩

def lawSign.T12 : Bool × List (List Nat × List Nat) := (true, [([], []), ([], []), ([1], [1]), ([0, 2, 2], [0, 2]), ([3], [3])])
def lawSign.B12 : List Nat := [0, 0, 2, 7, 15]
theorem lawSign.tab12 : rtab .any (opsOf Tryd.f4 12) = lawSign.T12 := by kernel_rfl
theorem lawSign.bits12 : waitsOk lawSign.T12.2 lawSign.B12 = true := by kernel_rfl
set_option maxRecDepth 100000 in
set_option maxHeartbeats 16000000 in
theorem lawSign_any {p b : T} {ws : List T} {A : Option Addr} {c : Nat} (hp : p.length ≤ 9223372036854775807) (hb : b.length ≤ 9223372036854775807) (hl : ws.length ≤ 9223372036854775807) (hw : ∀ x ∈ ws, x.length ≤ 9223372036854775807) (t : T) (ht : t.length ≤ 9223372036854775807) (w : World) (hT : Texts w A c ws) (hM : ML w) :
    Calls Tryd.prog 4 #[.agg #[.string (str p), .string (str b), .slice A ws.length c], .string (str t)] w fun e w' => e = .returned (.bool true) ∧ Below w.heap.size w w' := by
  have hszt := str_size t
  have HT := Aside0.mk hT
  have HSZ := Aside0.mk (fun W (h : Texts W A c ws) => szScheme_any hp hb hl hw W h)
  have hB1 : Aside0 (Below w.heap.size w (w.alloc (.cells #[.string (str p), .string (str b), .slice A ws.length c] 24))) := ⟨(Below.refl _ w).alloc (Nat.le_refl _) _⟩
  have hX1 : Aside0 ((w.alloc (.cells #[.string (str p), .string (str b), .slice A ws.length c] 24)).heap[w.heap.size]? = some (boxA p b A ws.length c)) := ⟨al_new _ _ _ rfl⟩
  have hu24 := Tryd.underlying24
  have hu28 := Tryd.underlying28
  clear hT hM hw
  by_cases ct : t.length ≤ 1048576
  case neg =>
    go_enter Tryd.func4, Tryd.ntmps4
    go_wp2
    go_ret
    exact ⟨rfl, hB1.out⟩
  have HSB := Aside0.mk (fun (hs : Small2 p b ws) (A' : Option Addr) (c' : Nat) W (h : Texts W A' c' ws) => specBar_any hs t ct W h)
  have HIB := Aside0.mk (fun (hs : Small2 p b ws) (A' : Option Addr) (c' : Nat) (hA : ∀ ad, A' = some ad → ad.spot = none) W (h : Texts W A' c' ws) => implBar_any hs t ct hA W h)
  have hul := rW_le p b ws t
  unfold BarPost at HSB HIB
  generalize rP p b ws t = q at HSB HIB
  generalize rB p b ws t = d at HSB HIB
  generalize rW p b ws t = us at HSB HIB hul
  generalize okR p b ws t = ok at HSB HIB
  go_enter Tryd.func4, Tryd.ntmps4
  go_wp2_with (first
    | (go_at_call 18; refine (eqScheme_any hul2 _ HH6.out.o6.texts HF6.out.o4.texts).mono ?_; rintro e w7 ⟨rfl, hb7⟩; have HF7 := Aside0.mk (HF6.out.below hb7); have HG7 := Aside0.mk (HG6.out.below hb7); have HH7 := Aside0.mk (HH6.out.below hb7); clear k0 k1 k2 j0 j1 j2 HF6 HG6 HH6 hb7)
    | (go_at_call 20; refine (HIB.out (HSM.out (by omega)) _ _ hA5.out _ HG5.out.o5.texts).mono ?_; rintro e w6 ⟨A6, c6, rfl, ho6, hb6⟩; have HF6 : Aside0 (Fa w (w6.alloc (.cells #[.string (str q), .string (str d), .slice A6 us.length c6] 28)) p b q d ws us A A4 c c4 w4.heap.size) := ⟨(HF5.out.below hb6).below ((Below.refl _ _).alloc (Nat.le_refl _) _)⟩; have HG6 : Aside0 (Fb (w6.alloc (.cells #[.string (str q), .string (str d), .slice A6 us.length c6] 28)) p b ws A5 c5 w4.heap.size w5.heap.size) := ⟨(HG5.out.below hb6).below ((Below.refl _ _).alloc (Nat.le_refl _) _)⟩; have HH6 : Aside0 (Fc (w6.alloc (.cells #[.string (str q), .string (str d), .slice A6 us.length c6] 28)) q d us us A6 c6 w5.heap.size w6.heap.size) := ⟨fc_start (by have := ho6; rwa [al_size] at this) ho6.lt⟩; have hn6 : w5.heap.size < w6.heap.size := (by have := hb6.size; rw [al_size] at this; omega); clear k0 k1 k2 HF5 HG5 hb6 ho6; have k0 := blk_cell HH6.out.x6 0; have k1 := blk_cell HH6.out.x6 1; have k2 := blk_cell HH6.out.x6 2; have j0 := blk_cell HF6.out.x4 0; have j1 := blk_cell HF6.out.x4 1; have j2 := blk_cell HF6.out.x4 2)
    | (go_at_call 16; refine (toScheme_own hsl _ (texts_below HT.out HF4.out.bl)).mono ?_; rintro e w5 ⟨A5, c5, rfl, ho5, hb5⟩; have HF5 : Aside0 (Fa w (w5.alloc (.cells #[.string (str p), .string (str b), .slice A5 ws.length c5] 28)) p b q d ws us A A4 c c4 w4.heap.size) := ⟨(HF4.out.below hb5).below ((Below.refl _ _).alloc (Nat.le_refl _) _)⟩; have HG5 : Aside0 (Fb (w5.alloc (.cells #[.string (str p), .string (str b), .slice A5 ws.length c5] 28)) p b ws A5 c5 w4.heap.size w5.heap.size) := ⟨fb_start (by have := ho5; rwa [al_size] at this) ho5.lt⟩; have hn5 : w4.heap.size < w5.heap.size := (by have := hb5.size; rw [al_size] at this; omega); have hA5 : Aside0 (∀ ad, A5 = some ad → ad.spot = none) := ⟨fun ad h => (ho5.flat ad h).2.1⟩; clear k0 k1 k2 HF4 hb5 ho5; have k0 := blk_cell HG5.out.x5 0; have k1 := blk_cell HG5.out.x5 1; have k2 := blk_cell HG5.out.x5 2)
    | (go_at_call 19; refine (HSB.out (HSM.out (by omega)) _ _ _ HT3.out).mono ?_; rintro e w4 ⟨A4, c4, rfl, ho4, hb4⟩; have HF4 : Aside0 (Fa w (w4.alloc (.cells #[.string (str q), .string (str d), .slice A4 us.length c4] 28)) p b q d ws us A A4 c c4 w4.heap.size) := ⟨fa_start (Kd.R_lower ho4 HB3.out.size) ho4.lt (HB3.out.trans (hb4.mono HB3.out.size)) (below_box hb4 HX3.out)⟩; have k0 := blk_cell HF4.out.x2 0; have k1 := blk_cell HF4.out.x2 1; have k2 := blk_cell HF4.out.x2 2; have hn4 := HF4.out.n; have hz4 : Aside0 (w4.heap.size < w4.heap.size + 1) := ⟨Nat.lt_succ_self _⟩; clear HB3 HX3 HT3 ho4 hb4)
    | (go_at_call 16; refine (toScheme_own (HSM.out (by omega)).2.2.1 _ (texts_below HT.out HB2.out)).mono ?_; rintro e w3 ⟨A3, c3, rfl, ho3, hb3⟩; have HT3 := Aside0.mk ho3.texts; have HB3 := Aside0.mk (HB2.out.trans (hb3.mono HB2.out.size)); have HX3 := Aside0.mk (below_box hb3 HX2.out); have hsl := (HSM.out (by omega)).2.2.1; have hul2 : us.length ≤ 1048576 := (by omega); clear HB2 HX2 k0 k1 k2 hb3 ho3)
    | (go_at_call 14; refine (HSZ.out _ (texts_below HT.out hB1.out)).mono ?_; rintro e w2 ⟨v, rfl, hv, hb2⟩; have HB2 := Aside0.mk (hB1.out.trans (hb2.mono hB1.out.size)); have HX2 := Aside0.mk (below_box hb2 hX1.out); have HSM := Aside0.mk (fun h : 0 ≤ v => (show Small2 p b ws from hv h)); have k0 := blk_cell HX2.out 0; have k1 := blk_cell HX2.out 1; have k2 := blk_cell HX2.out 2; clear hv hb2))
  rotate_left
  focus
    have hk1 : ¬ ((1 + ws.length : Nat) : Int) < 0 := by omega
    have HF8 : Aside0 (Fa w w7.drew p b q d ws us A A4 c c4 w4.heap.size) := ⟨HF7.out.below (below_drew1 (Below.refl _ w7))⟩
    have HG8 : Aside0 (Fb w7.drew p b ws A5 c5 w4.heap.size w5.heap.size) := ⟨HG7.out.below (below_drew1 (Below.refl _ w7))⟩
    have HH8 : Aside0 (Fc w7.drew q d us us A6 c6 w5.heap.size w6.heap.size) := ⟨HH7.out.below (below_drew1 (Below.refl _ w7))⟩
    clear HF7 HG7 HH7
    refine start_ (n := 5) (S := fun w' => w'.cell? ⟨w5.heap.size, 0, none⟩ = some (.string (str p)) ∧ w'.cell? ⟨w5.heap.size, 1, none⟩ = some (.string (str b)) ∧ w'.cell? ⟨w5.heap.size, 2, none⟩ = some (.slice A5 ws.length c5) ∧ w'.cell? ⟨w.heap.size, 0, none⟩ = some (.string (str p)) ∧ w'.cell? ⟨w.heap.size, 1, none⟩ = some (.string (str b)) ∧ w'.cell? ⟨w.heap.size, 2, none⟩ = some (.slice A ws.length c)) (ds := []) #[false, false, false, false, false] (by kernel_rfl) rfl rfl (six_cells HG8.out HF8.out) (fun hHeld => ?_); refine with_tabW lawSign.tab12 lawSign.bits12 (fun HT_ HW_ => ?_)
    generalize w7.drew = w8 at HF8 HG8 HH8 hHeld ⊢
    refine take_ (i := 0) (N := some 48) (v := ?_) (a' := ?_) #[true, false, false, false, false] rfl rfl (take_ofW HT_.out HW_.out (by kernel_rfl)) (fun _ _ _ h => h) (Or.inl ⟨by rfl, ?_⟩) hHeld ?_ ?_
    rotate_left
    · rintro w' ⟨s0, s1, s2, s3, s4, s5⟩
      go_simp
      with_reducible rfl
    rotate_left
    · simp only [Act.put, List.setIfInBounds_toArray, List.set_cons_zero, List.set_cons_succ, i64_w, i32_w]
      rfl
    refine take_ (i := 1) (N := some 49) (v := ?_) (a' := ?_) #[true, true, false, false, false] rfl rfl (take_ofW HT_.out HW_.out (by kernel_rfl)) (fun _ _ _ h => h) (Or.inl ⟨by rfl, ?_⟩) hHeld ?_ ?_
    rotate_left
    · rintro w' ⟨s0, s1, s2, s3, s4, s5⟩
      go_simp
      with_reducible rfl
    rotate_left
    · simp only [Act.put, List.setIfInBounds_toArray, List.set_cons_zero, List.set_cons_succ, i64_w, i32_w]
      rfl
    refine one_ (i := 2) (N := some 50) #[true, true, true, false, false] rfl rfl (one_of HT_.out (by kernel_rfl)) (by decide) (fun K hK => ?_)
    refine goes_ Tryd.func16 (by kernel_rfl) rfl #[.agg #[.string (str p), .string (str b), .slice A ws.length c]] (by rfl) rfl rfl (by (try simp only [List.map_toArray, List.map_cons, List.map_nil]); first | done | rfl) ?_
    refine (toScheme_own hsl _ (texts_below HT.out HF8.out.bl)).mono ?_
    rintro e w9 ⟨A9, c9, rfl, ho9, hb9⟩
    have HT9 := Aside0.mk ho9.texts
    have HF9 := Aside0.mk (HF8.out.below hb9)
    have HG9 := Aside0.mk (HG8.out.below hb9)
    have HH9 := Aside0.mk (HH8.out.below hb9)
    clear ho9 hb9
    refine ⟨_, rfl, ?_⟩
    refine hK.out _ _ (six_cells HG9.out HF9.out) (fun hHeld => ?_)
    clear hK K
    refine norm_ (a' := ?_) ?_ ?_
    rotate_left
    · show Act.put _ (some 50) _ = _
      simp only [Act.put, List.setIfInBounds_toArray, List.set_cons_zero, List.set_cons_succ, i64_w, i32_w]
      rfl
    refine one_ (i := 3) (N := some 51) #[true, true, true, true, false] rfl rfl (one_of HT_.out (by kernel_rfl)) (by decide) (fun K hK => ?_)
    refine goes_ Tryd.func18 (by kernel_rfl) rfl #[.agg #[.string (str p), .string (str b), .slice A5 ws.length c5], .agg #[.string (str p), .string (str b), .slice A9 ws.length c9]] (by rfl) rfl rfl (by (try simp only [List.map_toArray, List.map_cons, List.map_nil]); first | done | rfl) ?_
    refine (eqScheme_any hsl _ HG9.out.o5.texts HT9.out).mono ?_
    rintro e w10 ⟨rfl, hb10⟩
    have HF10 := Aside0.mk (HF9.out.below hb10)
    have HG10 := Aside0.mk (HG9.out.below hb10)
    have HH10 := Aside0.mk (HH9.out.below hb10)
    clear hb10
    refine ⟨_, rfl, ?_⟩
    refine hK.out _ _ (six_cells HG10.out HF10.out) (fun hHeld => ?_)
    clear hK K
    refine norm_ (a' := ?_) ?_ ?_
    rotate_left
    · show Act.put _ (some 51) _ = _
      simp only [Act.put, List.setIfInBounds_toArray, List.set_cons_zero, List.set_cons_succ, i64_w, i32_w]
      rfl
    refine pure_ (i := 4) (N := some 52) (v := ?_) (a' := ?_) #[true, true, true, true, true] rfl rfl (any_of HT_.out (by kernel_rfl)) (fun _ _ _ h => h) (Or.inl ⟨by rfl, ?_⟩) ?_ ?_
    rotate_left
    · intro w'
      go_simp
      with_reducible rfl
    rotate_left
    · simp only [Act.put, List.setIfInBounds_toArray, List.set_cons_zero, List.set_cons_succ, i64_w, i32_w]
      rfl
    refine done_ (done_of HT_.out (by kernel_rfl)) ?_
    clear HF8 HG8 HH8 HF9 HG9 HH9
    have k0 := blk_cell HG10.out.x5 0
    have k1 := blk_cell HG10.out.x5 1
    have k2 := blk_cell HG10.out.x5 2
    go_wp2_with (first
      | (go_at_call 22; refine (heldScheme_any (k := 1) (n := us.length) (by omega) _ HH17.out.o6.texts).mono ?_; rintro e w18 ⟨rfl, hb18⟩; have HF18 := Aside0.mk (HF17.out.below hb18); clear k0 k1 k2 HF17 HH17 hb18)
      | (go_at_call 18; refine (eqScheme_any hul2 _ HO16.out HF16.out.o4.texts).mono ?_; rintro e w17 ⟨rfl, hb17⟩; have HF17 := Aside0.mk (HF16.out.below hb17); have HH17 := Aside0.mk (HH16.out.below hb17); clear k0 k1 k2 j0 j1 j2 HF16 HH16 HO16 HX16 hb17; have k0 := blk_cell HH17.out.x6 0; have k1 := blk_cell HH17.out.x6 1; have k2 := blk_cell HH17.out.x6 2)
      | (go_at_call 20; refine (HIB.out (HSM.out (by omega)) _ _ (fun ad h => (HO15.out.flat ad h).2.1) _ HO15.out.texts).mono ?_; rintro e w16 ⟨A16, c16, rfl, ho16, hb16⟩; have HF16 : Aside0 (Fa w (w16.alloc (.cells #[.string (str q), .string (str d), .slice A16 us.length c16] 28)) p b q d ws us A A4 c c4 w4.heap.size) := ⟨(HF15.out.below hb16).below ((Below.refl _ _).alloc (Nat.le_refl _) _)⟩; have HH16 : Aside0 (Fc (w16.alloc (.cells #[.string (str q), .string (str d), .slice A16 us.length c16] 28)) q d us (marks 1 us.length) A6 c6 w5.heap.size w6.heap.size) := ⟨(HH15.out.below hb16).below ((Below.refl _ _).alloc (Nat.le_refl _) _)⟩; have HO16 : Aside0 (Texts (w16.alloc (.cells #[.string (str q), .string (str d), .slice A16 us.length c16] 28)) A16 c16 us) := ⟨(ho16.below ((Below.refl _ _).alloc (Nat.le_refl _) _)).texts⟩; have HX16 : Aside0 ((w16.alloc (.cells #[.string (str q), .string (str d), .slice A16 us.length c16] 28)).heap[w16.heap.size]? = some (boxS q d A16 us.length c16)) := ⟨al_new _ _ _ rfl⟩; clear HF15 HH15 HO15 hb16 ho16; have k0 := blk_cell HX16.out 0; have k1 := blk_cell HX16.out 1; have k2 := blk_cell HX16.out 2; have j0 := blk_cell HF16.out.x4 0; have j1 := blk_cell HF16.out.x4 1; have j2 := blk_cell HF16.out.x4 2)
      | (go_at_call 16; refine (toScheme_own hsl _ (texts_below HT.out HF14.out.bl)).mono ?_; rintro e w15 ⟨A15, c15, rfl, ho15, hb15⟩; have HF15 := Aside0.mk (HF14.out.below hb15); have HH15 := Aside0.mk (HH14.out.below hb15); have HO15 := Aside0.mk ho15; clear k0 k1 k2 HF14 HH14 hb15 ho15)
      | (go_at_call 22; refine (heldScheme_any (k := 1) (n := us.length) (by omega) _ HH13.out.o6.texts).mono ?_; rintro e w14 ⟨rfl, hb14⟩; have HF14 := Aside0.mk (HF13.out.below hb14); have HH14 := Aside0.mk (HH13.out.below hb14); clear k0 k1 k2 HF13 HH13 hb14; have k0 := blk_cell HF14.out.x2 0; have k1 := blk_cell HF14.out.x2 1; have k2 := blk_cell HF14.out.x2 2)
      | (go_at_call 21; refine (markScheme_any (k := 1) (by omega) _ (by have := box_lt HH12.out.x6; omega) HH12.out.o6).mono ?_; rintro e w13 ⟨rfl, ho13, hg13⟩; have HF13 := Aside0.mk (HF12.out.grown hg13 (fun k hk => by obtain ⟨ad, e, e2⟩ := row_at hk; have := (HH12.out.o6.flat ad e).2.2; omega)); have HH13 := Aside0.mk (HH12.out.marked hg13 ho13); clear k0 k1 k2 HF12 HH12 ho13 hg13; have k0 := blk_cell HH13.out.x6 0; have k1 := blk_cell HH13.out.x6 1; have k2 := blk_cell HH13.out.x6 2)
      | (go_at_call 18; refine (eqScheme_any hul2 _ HH11.out.o6.texts HF11.out.o4.texts).mono ?_; rintro e w12 ⟨rfl, hb12⟩; have HF12 := Aside0.mk (HF11.out.below hb12); have HH12 := Aside0.mk (HH11.out.below hb12); clear k0 k1 k2 j0 j1 j2 HF11 HH11 hb12; have k0 := blk_cell HH12.out.x6 0; have k1 := blk_cell HH12.out.x6 1; have k2 := blk_cell HH12.out.x6 2)
      | (go_at_call 21; refine (markScheme_any (k := 1) (by omega) _ (box_lt HF10.out.x4) HG10.out.o5).mono ?_; rintro e w11 ⟨rfl, ho11, hg11⟩; have HF11 := Aside0.mk (HF10.out.grown hg11 (fun k hk => by obtain ⟨ad, e, e2⟩ := row_at hk; have := (HG10.out.o5.flat ad e).2.2; omega)); have HH11 := Aside0.mk (HH10.out.grown hg11 hn6 (fun k hk => by obtain ⟨ad, e, e2⟩ := row_at hk; have := HG10.out.l5 ad e; omega)); clear k0 k1 k2 HF10 HG10 HH10 ho11 hg11; have k0 := blk_cell HH11.out.x6 0; have k1 := blk_cell HH11.out.x6 1; have k2 := blk_cell HH11.out.x6 2; have j0 := blk_cell HF11.out.x4 0; have j1 := blk_cell HF11.out.x4 1; have j2 := blk_cell HF11.out.x4 2))
    go_ret
    exact ⟨rfl, HF18.out.bl⟩
  go_ret
  exact ⟨rfl, HB2.out⟩
end Go.Proofs.YtoieadofldkccaaDoor.Plates
