/- Rows of matrices that are alike; the number of rests, of the program and of the reference. -/
import Derived.Test.YtlkhhpckgcdeeaaGreatDoorMW
import Derived.Test.YtlkhhpckgcdeeaaGreatDoorGD
import Derived.Test.YtlkhhpckgcdeeaaGreatDoorW
import Derived.Maps.AppendAt
import Derived.Test.YtlkhhpckgcdeeaaGreatDoorV
import Derived.Test.YtlkhhpckgcdeeaaGreatDoorC
import Derived.Test.YtlkhhpckgcdeeaaGreatDoorRG
import Derived.Test.YtlkhhpckgcdeeaaGreatDoorJ
import Derived.Test.YtlkhhpckgcdeeaaGreatDoorTI
import Derived.Test.YtlkhhpckgcdeeaaGreatDoorJH
namespace Go.Proofs.YtlkhhpckgcdeeaaGreatDoor
open Go.RowKit
set_option linter.unusedVariables false
set_option linter.unusedSimpArgs false
attribute [local go_sem] run_equalIn_M
set_option maxRecDepth 100000 in
set_option maxHeartbeats 4000000 in
theorem matrices5_c (v1 v2 : Value) (B1 B2 : Nat) (xs : List Int) (w : World) (hm : xs.length ≤ 1000000000000) (h1 : OwnF 4 B1 w v1 xs) (h2 : OwnF 4 B2 w v2 xs) :
    Calls Tryz.prog 36 #[v1, v2] w fun e w' => e = .returned (.bool true) ∧ ∃ m, w' = w.drewN m := by
  have empty : ∀ p1 c1 p2 c2, Calls Tryz.prog 36 #[.slice p1 0 c1, .slice p2 0 c2] w fun e w' => e = .returned (.bool true) ∧ ∃ m, w' = w.drewN m := by
    intro p1 c1 p2 c2
    go_enter Tryz.func36, Tryz.ntmps36
    go_wp2
    refine wp_loop_rounds 1 ?_
    rw [rounds_succ]
    go_wp2
    go_ret
    exact ⟨rfl, 0, rfl⟩
  rcases h1 with ⟨rfl, p1, c1, rfl⟩ | ⟨g1, n, c1, rfl, hl1, -, b1, r1, -⟩
  · rcases h2 with ⟨-, p2, c2, rfl⟩ | ⟨g2, n2, c2, rfl, hl2, -, b2, r2, -⟩
    · exact empty _ _ _ _
    · obtain rfl : n2 = 0 := by simp at hl2; omega
      exact empty _ _ _ _
  rcases h2 with ⟨rfl, p2, c2, rfl⟩ | ⟨g2, n2, c2, rfl, hl2, -, b2, r2, -⟩
  · obtain rfl : n = 0 := by simp at hl1; omega
    exact empty _ _ _ _
  obtain rfl : n2 = n := by omega
  have R1 := Lib.hid r1
  have R2 := Lib.hid r2
  have HL := Lib.hid hl1
  have hn2 : n2 ≤ 1000000000000 := by omega
  clear r1 r2 hl1 hl2 empty hm
  go_enter Tryz.func36, Tryz.ntmps36
  go_wp2
  go_loopw [5] (fun i wr => ∃ k : Nat, k ≤ n2 ∧ i = .int .i64 k ∧ Hid (∃ m, wr = w.drewN m)) (fun i wr => n2 - (intOf i).toNat)
  case atStart => exact ⟨0, Nat.zero_le _, rfl, ⟨0, rfl⟩⟩
  case round =>
    obtain ⟨k, hk, rfl, HW⟩ := hrel
    by_cases hlt : k < n2
    · have hlen : k * 4 + 4 ≤ xs.length := by rw [HL.out]; omega
      have hk0 : (0 : Int) ≤ (k : Int) := by omega
      have hkn : (k : Int) < (n2 : Int) := by omega
      have q10 : wr.cell? ⟨g1, k * 4, none⟩ = some (.int .i64 (xs.getD (k * 4) 0)) := by obtain ⟨m, rfl⟩ := HW.out; have h := R1.out (k * 4) (by omega); rw [Nat.zero_add] at h; rw [World.cell?_drewN]; exact h
      have q11 : wr.cell? ⟨g1, k * 4 + 1, none⟩ = some (.int .i64 (xs.getD (k * 4 + 1) 0)) := by obtain ⟨m, rfl⟩ := HW.out; have h := R1.out (k * 4 + 1) (by omega); rw [Nat.zero_add] at h; rw [World.cell?_drewN]; exact h
      have q12 : wr.cell? ⟨g1, k * 4 + 2, none⟩ = some (.int .i64 (xs.getD (k * 4 + 2) 0)) := by obtain ⟨m, rfl⟩ := HW.out; have h := R1.out (k * 4 + 2) (by omega); rw [Nat.zero_add] at h; rw [World.cell?_drewN]; exact h
      have q13 : wr.cell? ⟨g1, k * 4 + 3, none⟩ = some (.int .i64 (xs.getD (k * 4 + 3) 0)) := by obtain ⟨m, rfl⟩ := HW.out; have h := R1.out (k * 4 + 3) (by omega); rw [Nat.zero_add] at h; rw [World.cell?_drewN]; exact h
      have q20 : wr.cell? ⟨g2, k * 4, none⟩ = some (.int .i64 (xs.getD (k * 4) 0)) := by obtain ⟨m, rfl⟩ := HW.out; have h := R2.out (k * 4) (by omega); rw [Nat.zero_add] at h; rw [World.cell?_drewN]; exact h
      have q21 : wr.cell? ⟨g2, k * 4 + 1, none⟩ = some (.int .i64 (xs.getD (k * 4 + 1) 0)) := by obtain ⟨m, rfl⟩ := HW.out; have h := R2.out (k * 4 + 1) (by omega); rw [Nat.zero_add] at h; rw [World.cell?_drewN]; exact h
      have q22 : wr.cell? ⟨g2, k * 4 + 2, none⟩ = some (.int .i64 (xs.getD (k * 4 + 2) 0)) := by obtain ⟨m, rfl⟩ := HW.out; have h := R2.out (k * 4 + 2) (by omega); rw [Nat.zero_add] at h; rw [World.cell?_drewN]; exact h
      have q23 : wr.cell? ⟨g2, k * 4 + 3, none⟩ = some (.int .i64 (xs.getD (k * 4 + 3) 0)) := by obtain ⟨m, rfl⟩ := HW.out; have h := R2.out (k * 4 + 3) (by omega); rw [Nat.zero_add] at h; rw [World.cell?_drewN]; exact h
      clear hlen
      generalize xs.getD (k * 4) 0 = y0 at *
      generalize xs.getD (k * 4 + 1) 0 = y1 at *
      generalize xs.getD (k * 4 + 2) 0 = y2 at *
      generalize xs.getD (k * 4 + 3) 0 = y3 at *
      go_wp2
      go_quiet (fail)
      go_wp2
      go_roundw
      case rel => exact ⟨k + 1, by omega, by go_num, by obtain ⟨m, rfl⟩ := HW.out; exact ⟨m + nq, by rw [World.drewN_drewN]⟩⟩
      case measure => simp [intOf]; omega
    · go_wp2
      go_ret
      exact ⟨rfl, HW.out⟩
end Go.Proofs.YtlkhhpckgcdeeaaGreatDoor

/- What the law FnFractionsLed calls, each time for the program and the reference together, with what it says. -/
namespace Go.Proofs.YtlkhhpckgcdeeaaGreatDoor
open Go.RowKit
set_option linter.unusedVariables false
set_option linter.unusedSimpArgs false
def RetF (f : Nat) (args : Array Value) (v : Value) : Prop := ∀ w, Calls Tryz.prog f args w fun e w' => e = .returned v ∧ Below w.heap.size w w'
theorem RetF.get {f : Nat} {args : Array Value} {v : Value} (h : RetF f args v) (w : World) : Calls Tryz.prog f args w fun e w' => e = .returned v ∧ Below w.heap.size w w' := h w
theorem lead_all (p q r s x y : Int) : ∃ x0 x1 x2 : Int, Hid (RetF 7 #[.agg #[.int .i64 p, .int .i64 q, .int .i64 r, .int .i64 s], .agg #[.int .i64 x, .int .i64 y]] (.tuple #[.agg #[.int .i64 x0, .int .i64 x1], .int .i64 x2])) ∧ Hid (RetF 8 #[.agg #[.int .i64 p, .int .i64 q, .int .i64 r, .int .i64 s], .agg #[.int .i64 x, .int .i64 y]] (.tuple #[.agg #[.int .i64 x0, .int .i64 x1], .int .i64 x2])) ∧
    (x2 = 0 → isM p q r s = true ∧ isF x y = true ∧ isF x0 x1 = true ∧ Hid (RetF 7 #[.agg #[.int .i64 s, .int .i64 (-q), .int .i64 (-r), .int .i64 p], .agg #[.int .i64 x0, .int .i64 x1]] (.tuple #[.agg #[.int .i64 x, .int .i64 y], .int .i64 0]))) := by
  cases h : (isM p q r s && isF x y)
  · exact ⟨_, _, 1, Lib.hid (fun w => LeadFraction_no _ _ _ _ _ _ w h), Lib.hid (fun w => sLeadFraction_no _ _ _ _ _ _ w h), by omega⟩
  · rw [Bool.and_eq_true] at h
    obtain ⟨hM, hF⟩ := h
    cases he : (ent (redP (p * x + q * y) (r * x + s * y)) && ent (redQ (p * x + q * y) (r * x + s * y)))
    · exact ⟨_, _, 3, Lib.hid (fun w => LeadFraction_limit _ _ _ _ _ _ w hM hF he), Lib.hid (fun w => sLeadFraction_limit _ _ _ _ _ _ w hM hF he), by omega⟩
    · refine ⟨_, _, 0, Lib.hid (fun w => LeadFraction_yes _ _ _ _ _ _ w hM hF he), Lib.hid (fun w => sLeadFraction_yes _ _ _ _ _ _ w hM hF he), fun _ => ?_⟩
      obtain ⟨⟨p0, p1⟩, ⟨q0, q1⟩, ⟨r0, r1⟩, ⟨s0, s1⟩, hd⟩ := isM_iff.mp hM
      obtain ⟨hx, hy, hg, -⟩ := isF_iff.mp hF
      have hX := red_ent (gcd_mat hd hg) he
      have hN : isM s (-q) (-r) p = true := isM_iff.mpr ⟨by omega, by omega, by omega, by omega, by rw [Int.neg_mul_neg, Int.mul_comm s p]; exact hd⟩
      obtain ⟨b1, b2⟩ := lead_back hd hF
      refine ⟨hM, hF, hX, Lib.hid (fun w => ?_)⟩
      have := LeadFraction_yes s (-q) (-r) p _ _ w hN hX (by rw [b1, b2, Bool.and_eq_true]; exact ⟨ent_iff.mpr hx, ent_iff.mpr (by omega)⟩)
      rw [b1, b2] at this
      exact this
theorem kept_all2 (p q r s : Int) : ∃ x0 x1 x2 : Int, Hid (RetF 15 #[.agg #[.int .i64 p, .int .i64 q, .int .i64 r, .int .i64 s]] (.tuple #[.agg #[.int .i64 x0, .int .i64 x1], .int .i64 x2])) ∧ Hid (RetF 16 #[.agg #[.int .i64 p, .int .i64 q, .int .i64 r, .int .i64 s]] (.tuple #[.agg #[.int .i64 x0, .int .i64 x1], .int .i64 x2])) ∧
    (x2 = 0 → Hid (RetF 7 #[.agg #[.int .i64 p, .int .i64 q, .int .i64 r, .int .i64 s], .agg #[.int .i64 x0, .int .i64 x1]] (.tuple #[.agg #[.int .i64 x0, .int .i64 x1], .int .i64 0])) ∧ Hid (RetF 17 #[.agg #[.int .i64 p, .int .i64 q, .int .i64 r, .int .i64 s]] (.tuple #[.int .i64 2, .int .i64 0]))) := by
  obtain ⟨x0, x1, x2, K1, K2, h⟩ := kept_all p q r s
  refine ⟨x0, x1, x2, K1, K2, fun hx => ?_⟩
  obtain ⟨hM, hk, hF, e, he, h1, h2⟩ := h hx
  obtain ⟨k1, k2⟩ := kept_lead he hF h1 h2
  obtain ⟨hx0, hx1, -, -⟩ := isF_iff.mp hF
  refine ⟨Lib.hid (fun w => ?_), Lib.hid (fun w => by have := KindOf_yes p q r s w hM; rw [hk] at this; exact this)⟩
  have := LeadFraction_yes p q r s x0 x1 w hM hF (by rw [k1, k2, Bool.and_eq_true]; exact ⟨ent_iff.mpr hx0, ent_iff.mpr (by omega)⟩)
  rw [k1, k2] at this
  exact this
theorem cmp_all (p q p' q' : Int) : ∃ x y c : Int, Hid (RetF 19 #[.agg #[.int .i64 p, .int .i64 q], .agg #[.int .i64 p', .int .i64 q']] (.tuple #[.int .i64 x, .int .i64 c])) ∧ Hid (RetF 20 #[.agg #[.int .i64 p, .int .i64 q], .agg #[.int .i64 p', .int .i64 q']] (.tuple #[.int .i64 x, .int .i64 c])) ∧ Hid (RetF 19 #[.agg #[.int .i64 p', .int .i64 q'], .agg #[.int .i64 p, .int .i64 q]] (.tuple #[.int .i64 y, .int .i64 c])) ∧
    x = -y ∧ -1 ≤ y ∧ y ≤ 1 ∧ (c = 0 → (x = 0 ↔ (p = p' ∧ q = q'))) := by
  cases h : (isF p q && isF p' q')
  · have h' : (isF p' q' && isF p q) = false := by rw [Bool.and_comm]; exact h
    exact ⟨0, 0, 1, Lib.hid (fun w => CompareFractions_no _ _ _ _ w h), Lib.hid (fun w => sCompareFractions_no _ _ _ _ w h), Lib.hid (fun w => CompareFractions_no _ _ _ _ w h'), by omega, by omega, by omega, by omega⟩
  · have h' : (isF p' q' && isF p q) = true := by rw [Bool.and_comm]; exact h
    have h2 := h
    rw [Bool.and_eq_true] at h2
    have ha := cmpF_anti p q p' q'
    have hb : -1 ≤ cmpF p' q' p q ∧ cmpF p' q' p q ≤ 1 := by
      unfold cmpF sgn
      split
      · omega
      · split <;> omega
    exact ⟨cmpF p q p' q', cmpF p' q' p q, 0, Lib.hid (fun w => CompareFractions_yes _ _ _ _ w h), Lib.hid (fun w => sCompareFractions_yes _ _ _ _ w h), Lib.hid (fun w => CompareFractions_yes _ _ _ _ w h'), by omega, hb.1, hb.2, fun _ => cmpF_zero h2.1 h2.2⟩
theorem frac_all (p q : Int) : ∃ a b c : Int, Hid (RetF 22 #[.int .i64 p, .int .i64 q] (.tuple #[.agg #[.int .i64 a, .int .i64 b], .int .i64 c])) ∧ Hid (RetF 23 #[.int .i64 p, .int .i64 q] (.tuple #[.agg #[.int .i64 a, .int .i64 b], .int .i64 c])) := by
  cases h : (ent p && ent q)
  · exact ⟨_, _, _, Lib.hid (fun w => FractionOf_range p q w h), Lib.hid (fun w => sFractionOf_range p q w h)⟩
  · by_cases hz : p = 0 ∧ q = 0
    · obtain ⟨rfl, rfl⟩ := hz
      exact ⟨_, _, _, Lib.hid (fun w => FractionOf_state w), Lib.hid (fun w => sFractionOf_state w)⟩
    · exact ⟨_, _, _, Lib.hid (fun w => FractionOf_yes p q w h hz), Lib.hid (fun w => sFractionOf_yes p q w h hz)⟩
theorem rests_all (p q r s n : Int) : ∃ (zs : List Int) (c : Int), zs.length ≤ 4 ∧ Hid (∀ w, Calls Tryz.prog 25 #[.agg #[.int .i64 p, .int .i64 q, .int .i64 r, .int .i64 s], .int .i64 n] w fun e w' => ∃ v, e = .returned (.tuple #[v, .int .i64 c]) ∧ OwnI w.heap.size w' v zs ∧ Below w.heap.size w w') ∧ Hid (∀ w, Calls Tryz.prog 26 #[.agg #[.int .i64 p, .int .i64 q, .int .i64 r, .int .i64 s], .int .i64 n] w fun e w' => ∃ v, e = .returned (.tuple #[v, .int .i64 c]) ∧ OwnI w.heap.size w' v zs ∧ Below w.heap.size w w') ∧
    (c = 0 → 1 ≤ n ∧ n ≤ 1000000 ∧ ∃ a b d e : Int, zs = [a, b, d, e] ∧ (0 ≤ a ∧ a < n) ∧ (0 ≤ b ∧ b < n) ∧ (0 ≤ d ∧ d < n) ∧ (0 ≤ e ∧ e < n) ∧ (a * e - b * d - 1).tmod n = 0) := by
  have nil : ∀ {c : Int} {f : Nat} {w : World}, (Calls Tryz.prog f #[.agg #[.int .i64 p, .int .i64 q, .int .i64 r, .int .i64 s], .int .i64 n] w fun e w' => e = .returned (.tuple #[.slice none 0 0, .int .i64 c]) ∧ Below w.heap.size w w') → Calls Tryz.prog f #[.agg #[.int .i64 p, .int .i64 q, .int .i64 r, .int .i64 s], .int .i64 n] w fun e w' => ∃ v, e = .returned (.tuple #[v, .int .i64 c]) ∧ OwnI w.heap.size w' v [] ∧ Below w.heap.size w w' :=
    fun h => h.mono (fun e w' ⟨he, hb⟩ => ⟨_, he, .inl ⟨rfl, none, 0, rfl⟩, hb⟩)
  cases h : isM p q r s
  · exact ⟨[], 1, by simp, Lib.hid (fun w => nil (RestsOf_no p q r s n w h)), Lib.hid (fun w => nil (sRestsOf_no p q r s n w h)), by omega⟩
  cases hr : (decide (1 ≤ n) && decide (n ≤ 1000000))
  · exact ⟨[], 2, by simp, Lib.hid (fun w => nil (RestsOf_range p q r s n w h hr)), Lib.hid (fun w => nil (sRestsOf_range p q r s n w h hr)), by omega⟩
  have hb : 1 ≤ n ∧ n ≤ 1000000 := by simpa using hr
  obtain ⟨-, -, -, -, hd⟩ := isM_iff.mp h
  refine ⟨[p % n, q % n, r % n, s % n], 0, by simp, Lib.hid (fun w => (RestsOf_yes p q r s n w h hb.1 hb.2).mono (fun e w' ⟨v, he, ho, hB⟩ => ⟨v, he, OwnI.of_row (zs := [p % n, q % n, r % n, s % n]) ho, hB⟩)), Lib.hid (fun w => (sRestsOf_yes p q r s n w h hb.1 hb.2).mono (fun e w' ⟨v, he, ho, hB⟩ => ⟨v, he, OwnI.of_row (zs := [p % n, q % n, r % n, s % n]) ho, hB⟩)), fun _ => ⟨hb.1, hb.2, _, _, _, _, rfl, ?_, ?_, ?_, ?_, rests_det hd hb.1⟩⟩ <;> exact ⟨Int.emod_nonneg _ (by omega), Int.emod_lt_of_pos _ (by omega)⟩
theorem mats_all (n : Int) : ∃ (zs : List Int) (c : Int), zs.length ≤ 100000 ∧ Hid (∀ w, Calls Tryz.prog 32 #[.int .i64 n] w fun e w' => ∃ v, e = .returned (.tuple #[v, .int .i64 c]) ∧ OwnF 4 w.heap.size w' v zs ∧ Below w.heap.size w w') ∧ Hid (∀ w, Calls Tryz.prog 33 #[.int .i64 n] w fun e w' => ∃ v, e = .returned (.tuple #[v, .int .i64 c]) ∧ OwnF 4 w.heap.size w' v zs ∧ Below w.heap.size w w') := by
  cases h : (decide (0 ≤ n) && decide (n ≤ 3))
  · exact ⟨[], 2, by simp, Lib.hid (fun w => MatricesWithin_no n w h), Lib.hid (fun w => sMatricesWithin_no n w h)⟩
  · have hb : 0 ≤ n ∧ n ≤ 3 := by simpa using h
    exact ⟨rA n (-n), 0, by have := rA_len n hb.2; omega, Lib.hid (fun w => MatricesWithin_yes n w hb.1 hb.2), Lib.hid (fun w => sMatricesWithin_yes n w hb.1 hb.2)⟩
/-- a fraction and its text -/
theorem read_textF {p q : Int} (h : isF p q = true) : parseF (joinT [p, q] 47) = .tuple #[.agg #[.int .i64 p, .int .i64 q], .int .i64 0] := by
  obtain ⟨⟨p0, p1⟩, ⟨q0, q1⟩, -, -⟩ := isF_iff.mp h
  obtain ⟨h1, h2⟩ := to_parts (y := 47) (.inr rfl) (vs := [p, q]) (by simp) (by intro z hz; simp only [List.mem_cons, List.not_mem_nil, or_false] at hz; rcases hz with rfl | rfl <;> omega) rfl
  unfold parseF readF
  rw [h1, h2]
  have h3 : isF ([p, q].getD 0 0) ([p, q].getD 1 0) = true := h
  rw [h3]
  rfl
theorem read_sizeF {p q : Int} (h : isF p q = true) : (⟨(joinT [p, q] 47).toArray⟩ : ByteArray).size ≤ 88 := by
  obtain ⟨⟨p0, p1⟩, ⟨q0, q1⟩, -, -⟩ := isF_iff.mp h
  have := joinT_len (b := 47) (zs := [p, q]) (by intro z hz; simp only [List.mem_cons, List.not_mem_nil, or_false] at hz; rcases hz with rfl | rfl <;> omega)
  simp only [List.length_cons, List.length_nil] at this
  show (joinT [p, q] 47).toArray.size ≤ 88
  have e : (joinT [p, q] 47).toArray.size = (joinT [p, q] 47).length := by simp
  omega
theorem parseF_form' (l : List UInt8) : ∃ p q c : Int, parseF l = .tuple #[.agg #[.int .i64 p, .int .i64 q], .int .i64 c] := by
  unfold parseF
  split <;> exact ⟨_, _, _, rfl⟩
end Go.Proofs.YtlkhhpckgcdeeaaGreatDoor
