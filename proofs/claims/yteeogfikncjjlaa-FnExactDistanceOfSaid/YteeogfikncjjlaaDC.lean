/- Distances: what both functions answer, in plain Lean. -/
import Derived.Test.YteeogfikncjjlaaF
import Derived.Test.YteeogfikncjjlaaDB
namespace Go.Proofs.Yteeogfikncjjlaa
open Plain
set_option linter.unusedVariables false
set_option linter.unusedSimpArgs false
/-- what the reference counts for a fraction -/
def FarR (a b : Int) (n : Nat) : Prop := (b = 0 ∧ n = 0) ∨ (0 < b ∧ ∃ z l, Cont a b (z :: l) ∧ (n : Int) = 1 + G false l ∧ l.length ≤ 1000000000)
theorem gcd_lead {p q r s x y : Int} (h : p * s - q * r = 1) (hg : Int.gcd x y = 1) : Int.gcd (s * x - r * y) (-q * x + p * y) = 1 := by
  have d1 := Int.gcd_dvd_left (a := s * x - r * y) (b := -q * x + p * y)
  have d2 := Int.gcd_dvd_right (a := s * x - r * y) (b := -q * x + p * y)
  generalize hd : (Int.gcd (s * x - r * y) (-q * x + p * y) : Int) = d at d1 d2
  have h1 : d ∣ x := by
    have := Int.dvd_add (Int.dvd_mul_of_dvd_right (b := p) d1) (Int.dvd_mul_of_dvd_right (b := r) d2)
    have e : p * (s * x - r * y) + r * (-q * x + p * y) = x := by grind
    rwa [e] at this
  have h2 : d ∣ y := by
    have := Int.dvd_add (Int.dvd_mul_of_dvd_right (b := q) d1) (Int.dvd_mul_of_dvd_right (b := s) d2)
    have e : q * (s * x - r * y) + s * (-q * x + p * y) = y := by grind
    rwa [e] at this
  have h3 := Int.dvd_coe_gcd h1 h2
  rw [hg] at h3
  have h4 : d = 1 := by
    have h5 : 0 ≤ d := by rw [← hd]; omega
    have := Int.le_of_dvd (by decide) h3
    rcases (show d = 0 ∨ d = 1 by omega) with rfl | rfl
    · simp at h3
    · rfl
  rw [h4] at hd
  exact Int.ofNat.inj hd
theorem red_one {P Q : Int} (hg : Int.gcd P Q = 1) : 0 ≤ redQ P Q ∧ ((P = redP P Q ∧ Q = redQ P Q) ∨ (P = -(redP P Q) ∧ Q = -(redQ P Q))) := by
  unfold redP redQ
  rw [hg]
  simp only [Int.natCast_one, Int.ediv_one]
  split <;> omega
theorem far_near {P Q : Int} (hg : Int.gcd P Q = 1) (hQ : -1000000000 ≤ Q ∧ Q ≤ 1000000000) : ∃ n, FarR (redP P Q) (redQ P Q) n ∧ Near P Q n := by
  obtain ⟨h0, h1⟩ := red_one hg
  generalize redP P Q = a at *
  generalize redQ P Q = b at *
  by_cases hb : b = 0
  · refine ⟨0, .inl ⟨hb, rfl⟩, ?_⟩
    have : Q = 0 := by omega
    rw [this]; exact .stop P
  · have hb' : 0 < b := by omega
    obtain ⟨l, hl, hn⟩ := cont_exists b.toNat a b h0 (by omega)
    cases hl with
    | stop => omega
    | step _ _ l _ h2 =>
    have hc : Cont a b (flo a b :: l) := .step a b l hb' h2
    obtain ⟨n, hn', hN⟩ := near_cont b.toNat a b _ l hb' (by omega) hc
    simp only [List.length_cons] at hn
    refine ⟨n, .inr ⟨hb', _, l, hc, hn', by omega⟩, ?_⟩
    rcases h1 with ⟨rfl, rfl⟩ | ⟨e1, e2⟩
    · exact hN
    · rw [e1, e2]; exact near_neg h0 hN
/-- one number for all ways to lead f to infinity -/
theorem dist_exists (p q x y : Int) (hg : Int.gcd x y = 1) (hQ : -1000000000 ≤ -q * x + p * y ∧ -q * x + p * y ≤ 1000000000) :
    ∃ n : Nat, ∀ r s, p * s - q * r = 1 → FarR (redP (s * x - r * y) (-q * x + p * y)) (redQ (s * x - r * y) (-q * x + p * y)) n ∧ Near (s * x - r * y) (-q * x + p * y) n := by
  by_cases hex : ∃ r s, p * s - q * r = 1
  · obtain ⟨r0, s0, h0⟩ := hex
    obtain ⟨n0, hf0, hn0⟩ := far_near (gcd_lead h0 hg) hQ
    refine ⟨n0, ?_⟩
    intro r s h
    obtain ⟨n, hf, hn⟩ := far_near (gcd_lead h hg) hQ
    obtain ⟨k, e1, e2⟩ := bez_uniq h h0
    have e : s * x - r * y = (s0 * x - r0 * y) + (-k) * (-q * x + p * y) := by rw [e1, e2]; grind
    have h3 := near_shift (-k) hn0
    rw [← e] at h3
    have := near_unique n n0 _ _ hn h3
    subst this
    exact ⟨hf, hn⟩
  · exact ⟨0, fun r s h => absurd ⟨r, s, h⟩ hex⟩
end Go.Proofs.Yteeogfikncjjlaa
