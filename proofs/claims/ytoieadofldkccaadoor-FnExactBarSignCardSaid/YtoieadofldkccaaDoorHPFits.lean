/-
  Plates: whether signs fit the beginning of a pattern, none barred.
-/
import Derived.Test.YtoieadofldkccaaDoorHPState
namespace Go.Proofs.YtoieadofldkccaaDoor.Plates
open Go.RowKit Go.Proofs.YtoieadofldkccaaDoorW.PrintWords Go.Proofs.YtoieadofldkccaaDoorW.PrintLast Go.Proofs.YtoieadofldkccaaDoorW.PrintMore Go.Proofs.YtoieadofldkccaaDoor.PFnExactCountBeginning
open PFake (ML ml_below)
set_option linter.unusedVariables false
set_option linter.unusedSimpArgs false

/-- each sign is allowed at its place -/
def Fits (p b t : T) : Prop := t.length ≤ p.length ∧ ∀ i (h : i < t.length) (h2 : i < p.length), t[i] ∈ allowedL b p[i]
open Classical in
noncomputable def fitsB (p b t : T) : Bool := decide (Fits p b t)
open Classical in
theorem fitsB_true {p b t : T} (h : Fits p b t) : fitsB p b t = true := by unfold fitsB; exact decide_eq_true h
open Classical in
theorem fitsB_false {p b t : T} (h : ¬ Fits p b t) : fitsB p b t = false := by unfold fitsB; exact decide_eq_false h

theorem mem_letters (c : UInt8) : c ∈ letters ↔ 65 ≤ c.toNat ∧ c.toNat ≤ 90 := by
  have : ∀ n, n < 256 → ((UInt8.ofNat n ∈ letters) ↔ (65 ≤ n ∧ n ≤ 90)) := by decide +kernel
  have h := this c.toNat c.toNat_lt
  rwa [UInt8.ofNat_toNat] at h
theorem mem_digits (c : UInt8) : c ∈ digits ↔ 48 ≤ c.toNat ∧ c.toNat ≤ 57 := by
  have : ∀ n, n < 256 → ((UInt8.ofNat n ∈ digits) ↔ (48 ≤ n ∧ n ≤ 57)) := by decide +kernel
  have h := this c.toNat c.toNat_lt
  rwa [UInt8.ofNat_toNat] at h

theorem mem_allowed (b : T) (x c : UInt8) : c ∈ allowedL b x ↔ Sign c ∧ ((65 ≤ c.toNat ∧ c.toNat ≤ 90) ↔ x = 76) ∧ c ∉ b := by
  unfold allowedL signsAt
  rw [List.mem_filter, decide_eq_true_eq]
  by_cases h : x = 76
  · rw [if_pos h, mem_letters]
    unfold Sign
    constructor
    · rintro ⟨a, d⟩; exact ⟨.inl a, ⟨fun _ => h, fun _ => a⟩, d⟩
    · rintro ⟨_, a, d⟩; exact ⟨a.2 h, d⟩
  · rw [if_neg h, mem_digits]
    unfold Sign
    constructor
    · rintro ⟨a, d⟩; exact ⟨.inr a, ⟨fun x => by omega, fun x => absurd x h⟩, d⟩
    · rintro ⟨a, e, d⟩
      refine ⟨?_, d⟩
      rcases a with a | a
      · exact absurd (e.1 a) h
      · exact a

theorem allowed_sign {b : T} {x c : UInt8} (h : c ∈ allowedL b x) : Sign c := ((mem_allowed b x c).1 h).1
theorem fits_sign {p b t : T} (h : Fits p b t) : ∀ c ∈ t, Sign c := by
  intro c hc
  obtain ⟨i, hi, rfl⟩ := List.mem_iff_getElem.1 hc
  exact allowed_sign (h.2 i hi (by have := h.1; omega))

theorem has_one (b : T) (c : UInt8) : hasB b [c] = decide (c ∈ b) := by
  by_cases h : c ∈ b
  · rw [decide_eq_true h]
    obtain ⟨s, t, e⟩ := List.append_of_mem h
    exact hasB_true ⟨s, t, by rw [e]; simp⟩
  · rw [decide_eq_false h]
    refine hasB_false (fun x => h ?_)
    obtain ⟨s, t, e⟩ := x
    rw [← e]; simp

theorem extract_one (t : T) (i : Nat) (h : i < t.length) : (str t).extract i (i + 1) = str [t[i]] := by
  rw [extract_str, Nat.add_sub_cancel_left, List.drop_eq_getElem_cons h]
  rfl

theorem plSign_any (c : UInt8) (n : Nat) (h : c.toNat = n) (w : World) : Calls Tryd.prog 68 #[.int .u8 n] w fun e w' => e = .returned (.bool (decide (Sign c))) ∧ Drawn0 w w' :=
  spec_plSign.calls n _ w (by rw [← h]; exact plSign_eq c)

/-- the ways through the test of one sign: n the sign's number, m the pattern's -/
def Way (sg al mb : Bool) (n m : Nat) : Prop :=
  (sg = true ∧ 65 ≤ n ∧ n ≤ 90 ∧ m = 76 ∧ mb = false ∧ al = true) ∨ (sg = true ∧ n < 65 ∧ m ≠ 76 ∧ mb = false ∧ al = true) ∨
  (sg = true ∧ 65 ≤ n ∧ n ≤ 90 ∧ m = 76 ∧ mb = true ∧ al = false) ∨ (sg = true ∧ n < 65 ∧ m ≠ 76 ∧ mb = true ∧ al = false) ∨
  (sg = true ∧ 65 ≤ n ∧ n ≤ 90 ∧ m ≠ 76 ∧ al = false) ∨ (sg = true ∧ n < 65 ∧ m = 76 ∧ al = false) ∨
  (sg = false ∧ n < 65 ∧ al = false) ∨ (sg = false ∧ 90 < n ∧ al = false)
theorem way_is (b : T) (x c : UInt8) : Way (decide (Sign c)) (decide (c ∈ allowedL b x)) (decide (c ∈ b)) c.toNat x.toNat := by
  have h := mem_allowed b x c
  have h76 : x = 76 ↔ x.toNat = 76 := ⟨fun h => by rw [h]; rfl, fun h => UInt8.toNat_inj.1 h⟩
  rw [h76] at h
  have hs : Sign c ↔ (65 ≤ c.toNat ∧ c.toNat ≤ 90) ∨ (48 ≤ c.toNat ∧ c.toNat ≤ 57) := Iff.rfl
  unfold Way
  simp only [decide_eq_true_eq, decide_eq_false_iff_not, h]
  generalize c.toNat = n at *
  generalize x.toNat = m at *
  by_cases s : Sign c <;> by_cases g : c ∈ b <;> simp only [s, g, true_iff, false_iff] at hs <;> simp only [s, g, not_true_eq_false, not_false_eq_true, and_true, and_false, true_and, false_and, or_false, false_or] <;> omega

set_option maxRecDepth 100000 in
set_option maxHeartbeats 4000000 in
theorem plFits_any {p b : T} {ws : List T} {A : Option Addr} {c : Nat} (t : T) (ht : t.length ≤ 4000000) (hp : p.length ≤ 4000000) (hb : b.length ≤ 4000000) (w : World) :
    Calls Tryd.prog 80 #[.agg #[.string (str p), .string (str b), .slice A ws.length c], .string (str t)] w fun e w' => e = .returned (.bool (fitsB p b t)) ∧ Below w.heap.size w w' := by
  have hsz := str_size t
  have hsp := str_size p
  by_cases hlen : t.length ≤ p.length
  · have HF : Aside0 (fitsB p b t = true ↔ ∀ i (h : i < t.length) (h2 : i < p.length), t[i] ∈ allowedL b p[i]) := ⟨by
      constructor
      · intro h
        by_cases g : Fits p b t
        · exact g.2
        · rw [fitsB_false g] at h; cases h
      · exact fun h => fitsB_true ⟨hlen, h⟩⟩
    go_enter Tryd.func80, Tryd.ntmps80
    go_wp2
    go_loopg [5] (t.length + 1) (fun gg v5 wr => ∃ i : Nat, v5 = .int .i64 i ∧ i ≤ t.length ∧ t.length - i < gg ∧ Aside0 (∀ j (h : j < t.length) (h2 : j < p.length), j < i → t[j] ∈ allowedL b p[j]) ∧ Aside0 (wr.heap[w.heap.size]? = some (.cells #[.string (str p), .string (str b), .slice A ws.length c] 28 (0, 0))) ∧ Aside0 (Below w.heap.size w wr))
    case atStart => exact ⟨0, rfl, by omega, by omega, ⟨fun j h h2 h3 => by omega⟩, ⟨al_new _ _ _ rfl⟩, ⟨(Below.refl _ w).alloc (Nat.le_refl _) _⟩⟩
    case round =>
      obtain ⟨i, rfl, i1, i2, HN, B0, HB⟩ := hrel
      by_cases hi : i < t.length
      · have hip : i < p.length := by omega
        have k0 : wr.cell? ⟨w.heap.size, 0, none⟩ = some (.string (str p)) := (Go.Joins.cell_of_block B0.out 0).trans rfl
        have k1 : wr.cell? ⟨w.heap.size, 1, none⟩ = some (.string (str b)) := (Go.Joins.cell_of_block B0.out 1).trans rfl
        obtain ⟨n, hn⟩ : ∃ n, n = t[i].toNat := ⟨_, rfl⟩
        obtain ⟨m, hm⟩ : ∃ m, m = p[i].toNat := ⟨_, rfl⟩
        have n256 : n < 256 := by rw [hn]; exact t[i].toNat_lt
        have m256 : m < 256 := by rw [hm]; exact p[i].toNat_lt
        have hbt : ((str t)[i]'(by rw [str_size]; exact hi)).toNat = n := hn.symm
        have hbp : ((str p)[i]'(by rw [str_size]; exact hip)).toNat = m := hm.symm
        have ex := extract_one t i hi
        have HS := Aside0.mk (fun W => plSign_any t[i] n hn.symm W)
        have HH := Aside0.mk (fun W => plHas_any b [t[i]] hb (by simp) W)
        have hway := way_is b p[i] t[i]
        rw [← hn, ← hm] at hway
        rw [has_one] at HH
        have HA : Aside0 (decide (t[i] ∈ allowedL b p[i]) = true → ∀ j (h : j < t.length) (h2 : j < p.length), j < i + 1 → t[j] ∈ allowedL b p[j]) := ⟨fun g j h h2 h3 => by
          by_cases e : j = i
          · subst e; exact of_decide_eq_true g
          · exact HN.out j h h2 (by omega)⟩
        have HX : Aside0 (decide (t[i] ∈ allowedL b p[i]) = false → fitsB p b t = false) := ⟨fun g => by
          cases hq : fitsB p b t with
          | false => rfl
          | true => exact absurd (HF.out.1 hq i hi hip) (of_decide_eq_false g)⟩
        clear HN HF
        generalize decide (Sign t[i]) = sg at HS hway
        generalize decide (t[i] ∈ b) = mb at HH hway
        generalize decide (t[i] ∈ allowedL b p[i]) = al at HA HX hway
        generalize t[i] = ch at ex HH
        clear hn hm
        have qm : ((m : Int) == 76) = decide (m = 76) := by rw [Bool.eq_iff_iff]; simp; omega
        have ewi : IntKind.i64.wrap ((i : Int) + 1) = i + 1 := IntWalk.i64_in _ (by omega)
        have eni : ((i : Int) + 1).toNat = i + 1 := by omega
        have hi1 : ((i : Int) + 1 ≤ t.length) = True := by simp; omega
        have hi2 : ((i : Int) ≤ i + 1) = True := by simp; omega
        have hi3 : (i ≤ i + 1) = True := by simp
        have hi4 : (i + 1 ≤ t.length) = True := by simp; omega
        rcases hway with ⟨rfl, w1, w2, w3, rfl, rfl⟩ | ⟨rfl, w1, w3, rfl, rfl⟩ | ⟨rfl, w1, w2, w3, rfl, rfl⟩ | ⟨rfl, w1, w3, rfl, rfl⟩ | ⟨rfl, w1, w2, w3, rfl⟩ | ⟨rfl, w1, w3, rfl⟩ | ⟨rfl, w1, rfl⟩ | ⟨rfl, w1, rfl⟩
        all_goals
          first | (have r65 : ((65 : Int) ≤ n) = True := by simp; omega) | (have r65 : ((65 : Int) ≤ n) = False := by simp; omega)
          (try first | (have r90 : ((n : Int) ≤ 90) = True := by simp; omega) | (have r90 : ((n : Int) ≤ 90) = False := by simp; omega))
          (try first | rw [decide_eq_true w3] at qm | rw [decide_eq_false w3] at qm)
          (try clear w3)
        all_goals
          first
          | (have HA' := Aside0.mk (HA.out rfl); clear HA HX
             go_wp2
             go_quiet (first | (go_at_call 68; refine (HS.out _).mono ?_; rintro e w' ⟨rfl, ⟨nd, rfl⟩⟩; exact ⟨rfl, _, World.drewN_drewN _ _ _⟩) | (go_at_call 49; refine (HH.out _).mono ?_; rintro e w' ⟨rfl, ⟨nd, rfl⟩⟩; exact ⟨rfl, _, World.drewN_drewN _ _ _⟩))
             go_wp2
             go_roundg (t.length - i)
             case measure => omega
             case rel => exact ⟨i + 1, by first | rfl | go_num, by omega, by omega, HA', B0, ⟨pw_below_drewN HB.out _⟩⟩)
          | (have HX' := Aside0.mk (HX.out rfl); clear HA HX
             go_wp2
             go_quiet (first | (go_at_call 68; refine (HS.out _).mono ?_; rintro e w' ⟨rfl, ⟨nd, rfl⟩⟩; exact ⟨rfl, _, World.drewN_drewN _ _ _⟩) | (go_at_call 49; refine (HH.out _).mono ?_; rintro e w' ⟨rfl, ⟨nd, rfl⟩⟩; exact ⟨rfl, _, World.drewN_drewN _ _ _⟩))
             go_wp2
             go_ret
             exact ⟨congrArg (fun z => Ending.returned (Value.bool z)) HX'.out.symm, pw_below_drewN HB.out _⟩)
      · obtain rfl : i = t.length := by omega
        have HE : Aside0 (fitsB p b t = true) := ⟨HF.out.2 (fun j h h2 => HN.out j h h2 h)⟩
        go_wp2
        go_ret
        exact ⟨congrArg (fun z => Ending.returned (Value.bool z)) HE.out.symm, HB.out⟩
  · have HE : Aside0 (fitsB p b t = false) := ⟨fitsB_false (fun h => hlen h.1)⟩
    go_enter Tryd.func80, Tryd.ntmps80
    go_wp2
    go_ret
    exact ⟨congrArg (fun z => Ending.returned (Value.bool z)) HE.out.symm, (Below.refl _ w).alloc (Nat.le_refl _) _⟩
end Go.Proofs.YtoieadofldkccaaDoor.Plates
