/-
  Plates: (impl.Scheme).barred.
-/
import Derived.Test.YtoieadofldkccaaDoorHPBar
import Derived.Test.YtoieadofldkccaaDoorShelf
import Derived.Lib.OwnBridge
import Derived.Lib.ConvBytes
import Derived.Lib.SmallJoins
import Derived.Laws.IdiomStrings
namespace Go.Proofs.YtoieadofldkccaaDoor.Plates
open Go.RowKit Go.Proofs.YtoieadofldkccaaDoorW.PrintWords Go.Proofs.YtoieadofldkccaaDoorW.PrintLast Go.Proofs.YtoieadofldkccaaDoorW.PrintMore Go.Proofs.YtoieadofldkccaaDoor.PFnExactCountBeginning
open Go.Sort Go.Lib Go.Proofs.YtoieadofldkccaaDoor.Bytes
set_option linter.unusedVariables false
set_option linter.unusedSimpArgs false

/-- the box of a scheme -/
abbrev boxS (p b : T) (A : Option Addr) (n c : Nat) : Obj := .cells #[.string (str p), .string (str b), .slice A n c] 28 (0, 0)
theorem box3_cells {W : World} {B t : Nat} {p b : T} {A : Option Addr} {n c : Nat} (h : W.heap[B]? = some (.cells #[.string (str p), .string (str b), .slice A n c] t (0, 0))) :
    W.cell? ⟨B, 0, none⟩ = some (.string (str p)) ∧ W.cell? ⟨B, 1, none⟩ = some (.string (str b)) ∧ W.cell? ⟨B, 2, none⟩ = some (.slice A n c) :=
  ⟨(Go.Joins.cell_of_block h 0).trans rfl, (Go.Joins.cell_of_block h 1).trans rfl, (Go.Joins.cell_of_block h 2).trans rfl⟩
theorem below_box {W W' : World} {B : Nat} {x : Obj} (h : RowKit.Below W.heap.size W W') (hx : W.heap[B]? = some x) : W'.heap[B]? = some x :=
  (h.block B (Array.getElem?_eq_some_iff.1 hx).1).trans hx
/-- the words of a scheme that is the call's own -/
def Own (w : World) (base : Nat) (A : Option Addr) (c : Nat) (ws : List T) : Prop := Kd.R Kd.string 9 w base (fun _ => True) (.slice A ws.length c) (ws.map str)
theorem Own.texts {w : World} {base : Nat} {A : Option Addr} {c : Nat} {ws : List T} (h : Own w base A c ws) : Texts w A c ws := by
  have hr := (Kd.R_reads' h).2
  exact ⟨hr.2, by rw [List.length_map]; exact hr.1⟩
theorem Own.below {w W : World} {base : Nat} {A : Option Addr} {c : Nat} {ws : List T} (h : Own w base A c ws) (hb : RowKit.Below w.heap.size w W) : Own W base A c ws := Kd.R_below h hb
theorem Own.row {w : World} {base : Nat} {A : Option Addr} {c : Nat} {ws : List T} (h : Own w base A c ws) : w.ownsRow base 9 1 (.slice A ws.length c) ws.length (ws.map fun t => Value.string (str t)) := by
  have := Kd.own_of_R h
  rw [List.length_map] at this
  unfold encs at this
  rwa [List.map_map] at this
theorem Own.flat {w : World} {base : Nat} {A : Option Addr} {c : Nat} {ws : List T} (h : Own w base A c ws) : ∀ ad, A = some ad → ad.off = 0 ∧ ad.spot = none ∧ base ≤ ad.block := by
  rintro ad rfl
  rcases h.row.2 with ⟨e, _⟩ | ⟨g, cap, cur, e, hg, _⟩
  · cases e
  · injection e with e1 e2 e3
    injection e1 with e1
    subst e1
    exact ⟨rfl, rfl, hg⟩

theorem add_at (b o j : Nat) : (⟨b, o, none⟩ : Addr).add j = ⟨b, o + j, none⟩ := by unfold Addr.add; split <;> simp_all

theorem clone_any {w : World} {A : Option Addr} {c : Nat} {ws : List T} (hA : ∀ ad, A = some ad → ad.spot = none) (hl : ws.length ≤ 1048576) (hT : Texts w A c ws) :
    Calls Tryd.prog 78 #[.slice A ws.length c] w fun e w' => ∃ A' c', e = .returned (.slice A' ws.length c') ∧ Own w' w.heap.size A' c' ws ∧ RowKit.Below w.heap.size w w' := by
  match A, hA, hT with
  | none, _, hT =>
    have h0 : ws = [] := by
      have := hT.1.2.2
      cases ws with
      | nil => rfl
      | cons x r => obtain ⟨ad, e, _⟩ := this (by simp); cases e
    subst h0
    refine (Tryd.slices_Clone_string_nil 0 c w).mono ?_
    rintro e w' ⟨rfl, rfl⟩
    exact ⟨none, 0, rfl, Kd.R_nil _ _ _ _ _, RowKit.Below.refl _ _⟩
  | some ad, hA, hT =>
    obtain ⟨b, o, s⟩ := ad
    have hs : s = none := hA _ rfl
    subst hs
    have h := Tryd.slices_Clone_string b o ws.length c (ws.map str) w (by simp) (by omega) (fun j hj => by
      rw [List.length_map] at hj
      obtain ⟨ad, e, hx⟩ := text_at hT j hj
      injection e with e
      subst e
      rw [show (⟨b, o, none⟩ : Addr).add j = ⟨b, o + j, none⟩ from add_at b o j] at hx
      rw [hx, List.getD_eq_getElem?_getD, List.getElem?_map, List.getElem?_eq_getElem hj]
      rfl)
    refine h.mono ?_
    rintro e w' ⟨v, rfl, ho, hn, hb⟩
    rw [List.take_of_length_le (by simp)] at ho
    rcases ho.2 with ⟨rfl, _⟩ | ⟨g, cap, cur, rfl, _⟩
    · exact absurd rfl hn
    · exact ⟨some ⟨g, 0, none⟩, cap, rfl, Kd.R_of_own (by rw [List.length_map]; exact ho) (fun _ _ => trivial), hb⟩

theorem below_grow_at (B : Nat) (w : World) (os : Array Obj) (h : B ≤ w.heap.size) : RowKit.Below B w (grow w os) :=
  ⟨rfl, rfl, rfl, by simp [grow], fun k hk => by simp only [grow]; exact Array.getElem?_append_left (by omega)⟩

/-- the sort turns nothing but its block -/
theorem below_sb {B blk : Nat} {w w1 W : World} {d : Array UInt8} (h : RowKit.Below B w w1) (hb : B ≤ blk) (hz : B ≤ w1.heap.size) (s : SB w1 blk d W) : RowKit.Below B w W := by
  obtain ⟨m, os, rfl⟩ := s.sw
  have h1 : RowKit.Below B w (putRow encB (Sort.ahead w1 m) blk 0 d) := below_putRow h hb
  exact h1.trans (below_grow_at B _ os (by rw [Go.Sort.size_putRow]; exact hz))

theorem bytes_start {w : World} {b : T} {x : UInt8} : Holds encB (bytesWorld w 5 (str b ++ str [x])) w.heap.size 0 (b ++ [x]).toArray := by
  intro j hj
  have hj2 : j < (b ++ [x]).length := by simpa using hj
  have hs : j < (str b ++ str [x]).size := by rw [str_append, str_size]; exact hj2
  have h1 := bytesWorld_cell w 5 (str b ++ str [x]) j hs
  refine ⟨?_, ?_⟩
  · rw [Nat.zero_add, h1]
    congr 2
    rw [str_append]
    show (((b ++ [x]).getD j 0).toNat : Int) = (((b ++ [x]).toArray[j]!).toNat : Int)
    rw [getElem!_pos _ j hj, List.getD_eq_getElem?_getD, List.getElem?_eq_getElem hj2]
    rfl
  · rw [Nat.zero_add]
    have hle : (str b ++ str [x]).size ≤ (bytesCells w 5 (str b ++ str [x])).size := by unfold bytesCells; simp [ByteArray.size]
    simp only [World.frozen?, bytesWorld_at_new]
    simp
    omega

theorem Own.of_block {w W : World} {base : Nat} {A : Option Addr} {c : Nat} {ws : List T} (h : Own w base A c ws) (hb : ∀ g, base ≤ g → g < w.heap.size → W.heap[g]? = w.heap[g]?) : Own W base A c ws := by
  have hr := h.row
  refine Kd.R_of_own ⟨by unfold encs; simp, ?_⟩ (fun _ _ => trivial)
  rw [List.length_map]
  rcases hr.2 with ⟨e, e2⟩ | ⟨g, cap, cur, e, hg, hx, h1, h2, h3, h4⟩
  · exact .inl ⟨e, e2⟩
  · refine .inr ⟨g, cap, cur, e, hg, (hb g hg (Array.getElem?_eq_some_iff.1 hx).1).trans hx, h1, h2, h3, ?_⟩
    rw [h4]
    unfold encs
    rw [List.map_map]
    rfl

/-- Compact behind Sort, of b ++ [x] -/
theorem compact_bar {b L : T} {x : UInt8} {blk N cap : Nat} {d : Array UInt8} {W : World} (hu : Up b) (hL : withX b x = L) (hN : N = b.length + 1) (h50 : N < 50) (hcap : N ≤ cap) (hp : PermIn 0 N (b ++ [x]).toArray d) (hs : SortedIn ltB 0 N d) (hH : Holds encB W blk 0 d) :
    Calls Tryd.prog 77 #[.slice (some ⟨blk, 0, none⟩) N cap] W fun e w' => e = .returned (.slice (some ⟨blk, 0, none⟩) L.length cap) ∧ (∀ j (hj : j < L.length), w'.cell? ((⟨blk, 0, none⟩ : Addr).add j) = some (.int .u8 (L[j].toNat : Int))) ∧ RowKit.Below blk W w' := by
  have hd0 : (b ++ [x]).toArray.size = N := by rw [hN]; simp
  have hd : d.size = N := by rw [hp.1]; exact hd0
  have hc : compactUpTo d d.size = L := by
    rw [← hL]
    refine bar_compact (d := (b ++ [x]).toArray) hu (by simp) (by rw [hd0]; exact hp) ?_
    rw [hd0]; exact hs
  refine (compact_any blk cap N d hd W hH h50 hcap).mono ?_
  have hle : L.length ≤ d.size := by
    rw [← hc]
    unfold compactUpTo
    rw [List.length_map]
    exact Nat.le_trans (List.length_filter_le _ _) (by simp)
  unfold Comp
  rw [hc]
  rintro e w' ⟨rfl, q, rfl⟩
  refine ⟨rfl, fun j hj => ?_, below_putRow (RowKit.Below.refl _ _) (Nat.le_refl _)⟩
  have h1 := cell?_putRow encB (Sort.ahead W q) blk 0 d (L ++ List.replicate (d.size - L.length) 0).toArray (holds_ahead encB W q blk 0 d hH) (by simp; omega) j (by simp; omega)
  rw [add_at, h1]
  congr 2
  rw [getElem!_pos _ j (by simp; omega)]
  simp [List.getElem_append_left hj]

def barred.T3 : Bool × List (List Nat × List Nat) := (true, [([], []), ([0], [0]), ([], []), ([2], [2]), ([3], [3]), ([], []), ([5], [5]), ([6, 3], [6]), ([1, 4, 7], [1, 4, 7]), ([8, 7, 0, 1, 2, 3, 4, 5, 6, 7, 8], [8])])
def barred.B3 : List Nat := [0, 1, 0, 4, 12, 0, 32, 108, 255, 511]
theorem barred.tab3 : rtab .any (opsOf Tryd.f54 3) = barred.T3 := by kernel_rfl
theorem barred.bits3 : waitsOk barred.T3.2 barred.B3 = true := by kernel_rfl
set_option maxRecDepth 100000 in
set_option maxHeartbeats 4000000 in
theorem barred_any {p b : T} {ws : List T} {A : Option Addr} {c : Nat} (G : Good p b ws) (x : UInt8) (hA : ∀ ad, A = some ad → ad.spot = none) (w : World) (hT : Texts w A c ws) :
    Calls Tryd.prog 54 #[.agg #[.string (str p), .string (str b), .slice A ws.length c], .string (str [x])] w fun e w' => ∃ A' c', e = .returned (.agg #[.string (str p), .string (str (withX b x)), .slice A' ws.length c']) ∧ Own w' w.heap.size A' c' ws ∧ RowKit.Below w.heap.size w w' := by
  have b36 := G.b36
  have w3 := G.w3
  obtain ⟨L, hL⟩ : ∃ L, withX b x = L := ⟨_, rfl⟩
  rw [hL]
  have HL := Aside0.mk hL
  clear hL
  obtain ⟨N, hN⟩ : ∃ N, N = b.length + 1 := ⟨_, rfl⟩
  obtain ⟨wa, hwa⟩ : ∃ wa, wa = (w.alloc (.cells #[.string (str p), .string (str b), .slice A ws.length c] 28)).alloc (.cells #[.string ⟨#[]⟩, .string ⟨#[]⟩, .slice none 0 0] 28) := ⟨_, rfl⟩
  have hws : wa.heap.size = w.heap.size + 2 := by rw [hwa, al_size, al_size]
  have HBa : Aside0 (RowKit.Below w.heap.size w wa) := ⟨by rw [hwa]; exact ((RowKit.Below.refl _ w).alloc (Nat.le_refl _) _).alloc (by rw [al_size]; omega) _⟩
  have HX0 : Aside0 (wa.heap[w.heap.size]? = some (boxS p b A ws.length c)) := ⟨by rw [hwa]; exact al_old _ _ _ _ (al_new _ _ _ rfl)⟩
  have HY0 : Aside0 (wa.heap[w.heap.size + 1]? = some (.cells #[.string ⟨#[]⟩, .string ⟨#[]⟩, .slice none 0 0] 28 (0, 0))) := ⟨by rw [hwa]; exact al_new _ _ _ (by rw [al_size])⟩
  have hcv : (convert 9 71 (.string (str b ++ str [x]))).run Tryd.prog wa = .ok (.slice (some ⟨w.heap.size + 2, 0, none⟩) N (grownCap wa N 0 5)) (bytesWorld wa 5 (str b ++ str [x])) := by
    have := Lib.run_convert_string_bytes (P := Tryd.prog) wa 9 71 5 (str b ++ str [x]) (u := .string) rfl rfl rfl
    rwa [hws, show (str b ++ str [x]).size = N from by rw [str_append, str_size, hN]; simp] at this
  have hcap : N ≤ grownCap wa N 0 5 := grownCap_ge _ _ _ _
  have HH : Aside0 (Holds encB (bytesWorld wa 5 (str b ++ str [x])) (w.heap.size + 2) 0 (b ++ [x]).toArray) := ⟨by rw [← hws]; exact bytes_start⟩
  have HB1 : Aside0 (RowKit.Below w.heap.size w (bytesWorld wa 5 (str b ++ str [x]))) := ⟨HBa.out.trans (Go.Joins.below_bytesWorld _ _ _ _ (by omega))⟩
  have HX1 : Aside0 ((bytesWorld wa 5 (str b ++ str [x])).heap[w.heap.size]? = some (boxS p b A ws.length c)) := ⟨by rw [bytesWorld_at_old _ _ _ _ (by omega)]; exact HX0.out⟩
  have HY1 : Aside0 ((bytesWorld wa 5 (str b ++ str [x])).heap[w.heap.size + 1]? = some (.cells #[.string ⟨#[]⟩, .string ⟨#[]⟩, .slice none 0 0] 28 (0, 0))) := ⟨by rw [bytesWorld_at_old _ _ _ _ (by omega)]; exact HY0.out⟩
  have hz1 : (bytesWorld wa 5 (str b ++ str [x])).heap.size = w.heap.size + 3 := by rw [bytesWorld_size, hws]
  generalize grownCap wa N 0 5 = cap at hcv hcap
  rw [hwa] at hcv
  generalize hw1 : bytesWorld wa 5 (str b ++ str [x]) = w1 at HH HB1 HX1 HY1 hz1
  rw [← hwa, hw1, hwa] at hcv
  clear HBa HX0 HY0 hw1 hwa hws wa
  have HR : Aside0 (Base w1 (w.heap.size + 2) N) := ⟨⟨_, ⟨fun _ => rfl, HH.out, by omega⟩, by rw [hN]; simp⟩⟩
  have HSB : Aside0 (SB w1 (w.heap.size + 2) (b ++ [x]).toArray w1) := ⟨⟨SW.start HH.out⟩⟩
  have HSO := Aside0.mk (sort_any HR.out (by omega) cap (b ++ [x]).toArray w1 (by rw [hN]; simp) HSB.out)
  unfold Sorts at HSO
  have HT := Aside0.mk hT
  have HG := Aside0.mk G
  have HA := Aside0.mk hA
  have HN := Aside0.mk hN
  have hN37 : N ≤ 37 := by omega
  clear hT G hA HSB hN
  go_enter Tryd.func54, Tryd.ntmps54
  go_wp2_with (go_at_call 76; refine HSO.out.mono ?_; rintro e w2 ⟨rfl, d, HP, HSD, HS2⟩)
  have HBK : Aside0 (RowKit.Below (w.heap.size + 2) w1 w2) := ⟨below_sb (RowKit.Below.refl _ _) (Nat.le_refl _) (by omega) HS2.out⟩
  have HX2 : Aside0 (w2.drew.heap[w.heap.size]? = some (boxS p b A ws.length c)) := ⟨(HBK.out.block _ (by omega)).trans HX1.out⟩
  have HY2 : Aside0 (w2.drew.heap[w.heap.size + 1]? = some (.cells #[.string ⟨#[]⟩, .string ⟨#[]⟩, .slice none 0 0] 28 (0, 0))) := ⟨(HBK.out.block _ (by omega)).trans HY1.out⟩
  have HB2 : Aside0 (RowKit.Below w.heap.size w w2.drew) := ⟨below_drew1 (below_sb HB1.out (by omega) (by omega) HS2.out)⟩
  have hz2 : Aside0 (w.heap.size + 3 ≤ w2.drew.heap.size) := ⟨Nat.le_trans (by rw [hz1]; exact Nat.le_refl _) HBK.out.size⟩
  have HL1 : Aside0 (Up b) := ⟨up_of_rising HG.out.br⟩
  have HH2 : Aside0 (Holds encB w2.drew (w.heap.size + 2) 0 d) := ⟨HS2.out.sw.holds (by omega) HH.out (by have := HP.out.1; exact this)⟩
  have HCO := Aside0.mk (compact_bar HL1.out HL.out HN.out (by omega) hcap HP.out HSD.out HH2.out)
  clear HH2 HL1 HL HBK HX1 HY1 HB1 HH HR HSO HS2 HP HSD hz1 hcv HN
  refine start_ (n := 10) (S := fun w' => w'.cell? ⟨w.heap.size, 0, none⟩ = some (.string (str p)) ∧ w'.cell? ⟨w.heap.size, 1, none⟩ = some (.string (str b)) ∧ w'.cell? ⟨w.heap.size, 2, none⟩ = some (.slice A ws.length c)) (ds := [9]) #[false, false, false, false, false, false, false, false, false, false] (by kernel_rfl) rfl rfl (box3_cells HX2.out) (fun hHeld => ?_); refine with_tabW barred.tab3 barred.bits3 (fun HT_ HW_ => ?_)
  generalize w2.drew = w3 at HX2 HY2 HB2 hz2 HCO hHeld ⊢
  refine pure_ (i := 0) (N := some 13) (v := ?_) (a' := ?_) #[true, false, false, false, false, false, false, false, false, false] rfl rfl (any_of HT_.out (by kernel_rfl)) (fun _ _ _ h => h) (Or.inl ⟨by rfl, ?_⟩) ?_ ?_
  rotate_left
  · intro w'
    go_simp
    with_reducible rfl
  rotate_left
  · simp only [Act.put, List.setIfInBounds_toArray, List.set_cons_zero, List.set_cons_succ, i64_w, i32_w]
    rfl
  refine take_ (i := 1) (N := some 14) (v := ?_) (a' := ?_) #[true, true, false, false, false, false, false, false, false, false] rfl rfl (take_ofW HT_.out HW_.out (by kernel_rfl)) (fun _ _ _ h => h) (Or.inl ⟨by rfl, ?_⟩) hHeld ?_ ?_
  rotate_left
  · rintro w' ⟨s0, s1, s2⟩
    go_simp
    with_reducible rfl
  rotate_left
  · simp only [Act.put, List.setIfInBounds_toArray, List.set_cons_zero, List.set_cons_succ, i64_w, i32_w]
    rfl
  refine pure_ (i := 2) (N := some 15) (v := ?_) (a' := ?_) #[true, true, true, false, false, false, false, false, false, false] rfl rfl (any_of HT_.out (by kernel_rfl)) (fun _ _ _ h => h) (Or.inl ⟨by rfl, ?_⟩) ?_ ?_
  rotate_left
  · intro w'
    go_simp
    with_reducible rfl
  rotate_left
  · simp only [Act.put, List.setIfInBounds_toArray, List.set_cons_zero, List.set_cons_succ, i64_w, i32_w]
    rfl
  refine pure_ (i := 5) (N := some 18) (v := ?_) (a' := ?_) #[true, true, true, false, false, true, false, false, false, false] rfl rfl (any_of HT_.out (by kernel_rfl)) (fun _ _ _ h => h) (Or.inl ⟨by rfl, ?_⟩) ?_ ?_
  rotate_left
  · intro w'
    go_simp
    with_reducible rfl
  rotate_left
  · simp only [Act.put, List.setIfInBounds_toArray, List.set_cons_zero, List.set_cons_succ, i64_w, i32_w]
    rfl
  refine take_ (i := 6) (N := some 19) (v := ?_) (a' := ?_) #[true, true, true, false, false, true, true, false, false, false] rfl rfl (take_ofW HT_.out HW_.out (by kernel_rfl)) (fun _ _ _ h => h) (Or.inl ⟨by rfl, ?_⟩) hHeld ?_ ?_
  rotate_left
  · rintro w' ⟨s0, s1, s2⟩
    go_simp
    with_reducible rfl
  rotate_left
  · simp only [Act.put, List.setIfInBounds_toArray, List.set_cons_zero, List.set_cons_succ, i64_w, i32_w]
    rfl
  refine one_ (i := 3) (N := some 16) #[true, true, true, true, false, true, true, false, false, false] rfl rfl (one_of HT_.out (by kernel_rfl)) (by decide) (fun K hK => ?_)
  refine goes_ Tryd.func77 (by kernel_rfl) rfl #[.slice (some ⟨w.heap.size + 2, 0, none⟩) N cap] (by rfl) rfl rfl (by (try simp only [List.map_toArray, List.map_cons, List.map_nil]); first | done | rfl) ?_
  refine HCO.out.mono ?_
  rintro e w4 ⟨rfl, hc4, hb4⟩
  have hcb := run_convert_bytes_back (P := Tryd.prog) w4 71 9 5 ⟨w.heap.size + 2, 0, none⟩ cap L rfl rfl rfl hc4
  have HX4 : Aside0 (w4.heap[w.heap.size]? = some (boxS p b A ws.length c)) := ⟨(hb4.block _ (by omega)).trans HX2.out⟩
  have HY4 : Aside0 (w4.heap[w.heap.size + 1]? = some (.cells #[.string ⟨#[]⟩, .string ⟨#[]⟩, .slice none 0 0] 28 (0, 0))) := ⟨(hb4.block _ (by omega)).trans HY2.out⟩
  have HB4 : Aside0 (RowKit.Below w.heap.size w w4) := ⟨HB2.out.trans (hb4.mono (by omega))⟩
  have hz4 : Aside0 (w.heap.size + 3 ≤ w4.heap.size) := ⟨Nat.le_trans hz2.out hb4.size⟩
  have HC4 := Aside0.mk hc4
  clear hc4 hb4
  refine ⟨_, rfl, ?_⟩
  refine hK.out _ _ (box3_cells HX4.out) (fun hHeld => ?_)
  clear hK K
  refine norm_ (a' := ?_) ?_ ?_
  rotate_left
  · show Act.put _ (some 16) _ = _
    simp only [Act.put, List.setIfInBounds_toArray, List.set_cons_zero, List.set_cons_succ, i64_w, i32_w]
    rfl
  refine two_ (i := 4) (j := 7) (Ni := some 17) (Nj := some 20) #[true, true, true, true, true, true, true, false, false, false] #[true, true, true, true, false, true, true, true, false, false] rfl rfl rfl rfl (two_of HT_.out (by kernel_rfl)) (by decide) (by decide) (fun K hK => ?_) (fun K hK => ?_)
  · refine value_ (v := .string (str L)) (w1 := w4) (by rfl) rfl (by go_simp) ?_
    refine hK.out _ _ (box3_cells HX4.out) (fun hHeld => ?_)
    clear hK K
    refine norm_ (a' := ?_) ?_ ?_
    rotate_left
    · show Act.put _ (some 17) _ = _
      simp only [Act.put, List.setIfInBounds_toArray, List.set_cons_zero, List.set_cons_succ, i64_w, i32_w]
      rfl
    refine one_ (i := 7) (N := some 20) #[true, true, true, true, true, true, true, true, false, false] rfl rfl (one_of HT_.out (by kernel_rfl)) (by decide) (fun K hK => ?_)
    refine goes_ Tryd.func78 (by kernel_rfl) rfl #[.slice A ws.length c] (by rfl) rfl rfl (by (try simp only [List.map_toArray, List.map_cons, List.map_nil]); first | done | rfl) ?_
    refine (clone_any HA.out (by omega) (texts_below HT.out HB4.out)).mono ?_
    rintro e w5 ⟨A5, c5, rfl, ho5, hb5⟩
    have HO5 := Aside0.mk ho5
    have HX5 := Aside0.mk (below_box hb5 HX4.out)
    have HY5 := Aside0.mk (below_box hb5 HY4.out)
    have HB5 := Aside0.mk (HB4.out.trans (hb5.mono HB4.out.size))
    clear ho5 hb5
    refine ⟨_, rfl, ?_⟩
    refine hK.out _ _ (box3_cells HX5.out) (fun hHeld => ?_)
    clear hK K
    refine norm_ (a' := ?_) ?_ ?_
    rotate_left
    · show Act.put _ (some 20) _ = _
      simp only [Act.put, List.setIfInBounds_toArray, List.set_cons_zero, List.set_cons_succ, i64_w, i32_w]
      rfl
    refine pure_ (i := 8) (N := some 21) (v := ?_) (a' := ?_) #[true, true, true, true, true, true, true, true, true, false] rfl rfl (any_of HT_.out (by kernel_rfl)) (fun _ _ _ h => h) (Or.inl ⟨by rfl, ?_⟩) ?_ ?_
    rotate_left
    · intro w'
      go_simp
      with_reducible rfl
    rotate_left
    · simp only [Act.put, List.setIfInBounds_toArray, List.set_cons_zero, List.set_cons_succ, i64_w, i32_w]
      rfl
    refine last_ (i := 9) (N := none) #[true, true, true, true, true, true, true, true, true, true] rfl rfl (one_of HT_.out (by kernel_rfl)) (by decide) (fun K hK => ?_)
    have hcz0 := blk_cell HY5.out 0
    have hcz1 := blk_cell HY5.out 1
    have hcz2 := blk_cell HY5.out 2
    have hfz0 := blk_frozen HY5.out 0
    have hfz1 := blk_frozen HY5.out 1
    have hfz2 := blk_frozen HY5.out 2
    have hu28 := Tryd.underlying28
    have HYE : Aside0 ((((w5.setCell ⟨w.heap.size + 1, 0, none⟩ (.string (str p))).setCell ⟨w.heap.size + 1, 1, none⟩ (.string (str L))).setCell ⟨w.heap.size + 1, 2, none⟩ (.slice A5 ws.length c5)).heap[w.heap.size + 1]? = some (.cells #[.string (str p), .string (str L), .slice A5 ws.length c5] 28 (0, 0))) := ⟨blk_put (blk_put (blk_put HY5.out 0 _ rfl) 1 _ rfl) 2 _ rfl⟩
    have HOE : Aside0 (Own (((w5.setCell ⟨w.heap.size + 1, 0, none⟩ (.string (str p))).setCell ⟨w.heap.size + 1, 1, none⟩ (.string (str L))).setCell ⟨w.heap.size + 1, 2, none⟩ (.slice A5 ws.length c5)) w.heap.size A5 c5 ws) := ⟨Kd.R_lower (Own.of_block HO5.out (fun g h1 h2 => by
      have := hz4.out
      exact (RowKit.Below.heap_setCell _ _ _ g (by simp only; omega)).trans ((RowKit.Below.heap_setCell _ _ _ g (by simp only; omega)).trans (RowKit.Below.heap_setCell _ _ _ g (by simp only; omega))))) (by have := hz4.out; omega)⟩
    have HBE : Aside0 (RowKit.Below w.heap.size w (((w5.setCell ⟨w.heap.size + 1, 0, none⟩ (.string (str p))).setCell ⟨w.heap.size + 1, 1, none⟩ (.string (str L))).setCell ⟨w.heap.size + 1, 2, none⟩ (.slice A5 ws.length c5))) := ⟨below_set (below_set (below_set HB5.out (by omega)) (by omega)) (by omega)⟩
    refine skip_ (w1 := ((w5.setCell ⟨w.heap.size + 1, 0, none⟩ (.string (str p))).setCell ⟨w.heap.size + 1, 1, none⟩ (.string (str L))).setCell ⟨w.heap.size + 1, 2, none⟩ (.slice A5 ws.length c5)) (by rfl) rfl (by go_simp) ?_
    refine hK.out _ _ ?_
    clear hK K
    refine done_ (done_of HT_.out (by kernel_rfl)) ?_

    go_wp2
    refine bodyPost_ret (results_cell_row rfl _ _ (w.heap.size + 1) 28 #[.string (str p), .string (str L), .slice A5 ws.length c5] (0, 0) _ rfl HYE.out Tryd.underlying28 rfl (by kernel_rfl)) rfl ?_
    exact ⟨A5, c5, rfl, HOE.out, HBE.out⟩
  · refine goes_ Tryd.func78 (by kernel_rfl) rfl #[.slice A ws.length c] (by rfl) rfl rfl (by (try simp only [List.map_toArray, List.map_cons, List.map_nil]); first | done | rfl) ?_
    refine (clone_any HA.out (by omega) (texts_below HT.out HB4.out)).mono ?_
    rintro e w5 ⟨A5, c5, rfl, ho5, hb5⟩
    have HO5 := Aside0.mk ho5
    have HX5 := Aside0.mk (below_box hb5 HX4.out)
    have HY5 := Aside0.mk (below_box hb5 HY4.out)
    have HB5 := Aside0.mk (HB4.out.trans (hb5.mono HB4.out.size))
    have HC5 : Aside0 (∀ j (hj : j < L.length), w5.cell? ((⟨w.heap.size + 2, 0, none⟩ : Addr).add j) = some (.int .u8 (L[j].toNat : Int))) := ⟨fun j hj => (hb5.cell (World.block_lt_of_cell? _ _ (HC4.out j hj))).trans (HC4.out j hj)⟩
    clear ho5 hb5
    refine ⟨_, rfl, ?_⟩
    refine hK.out _ _ (box3_cells HX5.out) (fun hHeld => ?_)
    clear hK K
    refine norm_ (a' := ?_) ?_ ?_
    rotate_left
    · show Act.put _ (some 20) _ = _
      simp only [Act.put, List.setIfInBounds_toArray, List.set_cons_zero, List.set_cons_succ, i64_w, i32_w]
      rfl
    have hcb5 := run_convert_bytes_back (P := Tryd.prog) w5 71 9 5 ⟨w.heap.size + 2, 0, none⟩ cap L rfl rfl rfl HC5.out
    refine one_ (i := 4) (N := some 17) #[true, true, true, true, true, true, true, true, false, false] rfl rfl (one_of HT_.out (by kernel_rfl)) (by decide) (fun K hK => ?_)
    refine value_ (v := .string (str L)) (w1 := w5) (by rfl) rfl (by go_simp) ?_
    refine hK.out _ _ (box3_cells HX5.out) (fun hHeld => ?_)
    clear hK K
    refine norm_ (a' := ?_) ?_ ?_
    rotate_left
    · show Act.put _ (some 17) _ = _
      simp only [Act.put, List.setIfInBounds_toArray, List.set_cons_zero, List.set_cons_succ, i64_w, i32_w]
      rfl
    refine pure_ (i := 8) (N := some 21) (v := ?_) (a' := ?_) #[true, true, true, true, true, true, true, true, true, false] rfl rfl (any_of HT_.out (by kernel_rfl)) (fun _ _ _ h => h) (Or.inl ⟨by rfl, ?_⟩) ?_ ?_
    rotate_left
    · intro w'
      go_simp
      with_reducible rfl
    rotate_left
    · simp only [Act.put, List.setIfInBounds_toArray, List.set_cons_zero, List.set_cons_succ, i64_w, i32_w]
      rfl
    refine last_ (i := 9) (N := none) #[true, true, true, true, true, true, true, true, true, true] rfl rfl (one_of HT_.out (by kernel_rfl)) (by decide) (fun K hK => ?_)
    have hcz0 := blk_cell HY5.out 0
    have hcz1 := blk_cell HY5.out 1
    have hcz2 := blk_cell HY5.out 2
    have hfz0 := blk_frozen HY5.out 0
    have hfz1 := blk_frozen HY5.out 1
    have hfz2 := blk_frozen HY5.out 2
    have hu28 := Tryd.underlying28
    have HYE : Aside0 ((((w5.setCell ⟨w.heap.size + 1, 0, none⟩ (.string (str p))).setCell ⟨w.heap.size + 1, 1, none⟩ (.string (str L))).setCell ⟨w.heap.size + 1, 2, none⟩ (.slice A5 ws.length c5)).heap[w.heap.size + 1]? = some (.cells #[.string (str p), .string (str L), .slice A5 ws.length c5] 28 (0, 0))) := ⟨blk_put (blk_put (blk_put HY5.out 0 _ rfl) 1 _ rfl) 2 _ rfl⟩
    have HOE : Aside0 (Own (((w5.setCell ⟨w.heap.size + 1, 0, none⟩ (.string (str p))).setCell ⟨w.heap.size + 1, 1, none⟩ (.string (str L))).setCell ⟨w.heap.size + 1, 2, none⟩ (.slice A5 ws.length c5)) w.heap.size A5 c5 ws) := ⟨Kd.R_lower (Own.of_block HO5.out (fun g h1 h2 => by
      have := hz4.out
      exact (RowKit.Below.heap_setCell _ _ _ g (by simp only; omega)).trans ((RowKit.Below.heap_setCell _ _ _ g (by simp only; omega)).trans (RowKit.Below.heap_setCell _ _ _ g (by simp only; omega))))) (by have := hz4.out; omega)⟩
    have HBE : Aside0 (RowKit.Below w.heap.size w (((w5.setCell ⟨w.heap.size + 1, 0, none⟩ (.string (str p))).setCell ⟨w.heap.size + 1, 1, none⟩ (.string (str L))).setCell ⟨w.heap.size + 1, 2, none⟩ (.slice A5 ws.length c5))) := ⟨below_set (below_set (below_set HB5.out (by omega)) (by omega)) (by omega)⟩
    refine skip_ (w1 := ((w5.setCell ⟨w.heap.size + 1, 0, none⟩ (.string (str p))).setCell ⟨w.heap.size + 1, 1, none⟩ (.string (str L))).setCell ⟨w.heap.size + 1, 2, none⟩ (.slice A5 ws.length c5)) (by rfl) rfl (by go_simp) ?_
    refine hK.out _ _ ?_
    clear hK K
    refine done_ (done_of HT_.out (by kernel_rfl)) ?_

    go_wp2
    refine bodyPost_ret (results_cell_row rfl _ _ (w.heap.size + 1) 28 #[.string (str p), .string (str L), .slice A5 ws.length c5] (0, 0) _ rfl HYE.out Tryd.underlying28 rfl (by kernel_rfl)) rfl ?_
    exact ⟨A5, c5, rfl, HOE.out, HBE.out⟩
end Go.Proofs.YtoieadofldkccaaDoor.Plates
