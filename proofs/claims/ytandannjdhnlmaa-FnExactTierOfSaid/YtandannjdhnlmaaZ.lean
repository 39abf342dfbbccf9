/- The next fraction in a row. -/
import Derived.Test.YtandannjdhnlmaaH
import Derived.Test.YtandannjdhnlmaaW
import Derived.Deep.DeepCutAuto
namespace Go.Proofs.Ytandannjdhnlmaa
open Go.RowKit
set_option linter.unusedVariables false
set_option linter.unusedSimpArgs false
attribute [local go_sem] run_min_int4 run_max_int4
attribute [local go_sem] run_equalIn_Q
theorem bez (a b : Nat) : ∃ u v : Int, (a : Int) * u + (b : Int) * v = (Nat.gcd a b : Int) := by
  induction a, b using Nat.gcd.induction with
  | H0 n => exact ⟨0, 1, by simp⟩
  | H1 m n h ih =>
    obtain ⟨u, v, e⟩ := ih
    refine ⟨v - u * ((n / m : Nat) : Int), u, ?_⟩
    rw [Nat.gcd_rec m n, ← e]
    have h1 : ((n % m : Nat) : Int) = (n : Int) - (m : Int) * ((n / m : Nat) : Int) := by
      have := Nat.div_add_mod n m
      have h2 : ((m * (n / m) + n % m : Nat) : Int) = (n : Int) := by rw [this]
      rw [Int.natCast_add, Int.natCast_mul] at h2
      omega
    rw [h1]
    grind
theorem greatest (P : Nat → Prop) [DecidablePred P] (n : Nat) (h : ∃ s, s ≤ n ∧ P s) : ∃ s, s ≤ n ∧ P s ∧ ∀ t, t ≤ n → P t → t ≤ s := by
  induction n with
  | zero => obtain ⟨s, h1, h2⟩ := h; exact ⟨s, h1, h2, fun t ht _ => by omega⟩
  | succ n ih =>
    by_cases hp : P (n + 1)
    · exact ⟨n + 1, Nat.le_refl _, hp, fun t ht _ => ht⟩
    · obtain ⟨s, h1, h2⟩ := h
      have h3 : s ≠ n + 1 := by rintro rfl; exact hp h2
      obtain ⟨s', g1, g2, g3⟩ := ih ⟨s, by omega, h2⟩
      exact ⟨s', by omega, g2, fun t ht pt => by
        have : t ≠ n + 1 := by rintro rfl; exact hp pt
        exact g3 t (by omega) pt⟩
/-- the next in the row of n behind x/y is r0/s0 -/
structure NextF (n x y r0 s0 : Int) : Prop where
  one : r0 * y - x * s0 = 1
  pos : 1 ≤ s0
  le : s0 ≤ n
  max : ∀ s r : Int, 1 ≤ s → s ≤ n → r * y = 1 + x * s → s ≤ s0
theorem nextF_ex {n x y : Int} (hx : 0 ≤ x) (hy : 1 ≤ y) (hn : y ≤ n) (hg : Int.gcd x y = 1) : ∃ r0 s0, NextF n x y r0 s0 := by
  obtain ⟨a, rfl⟩ := Int.eq_ofNat_of_zero_le hx
  obtain ⟨b, rfl⟩ := Int.eq_ofNat_of_zero_le (show 0 ≤ y by omega)
  obtain ⟨m, rfl⟩ := Int.eq_ofNat_of_zero_le (show 0 ≤ n by omega)
  obtain ⟨u, v, e⟩ := bez a b
  rw [show Nat.gcd a b = 1 from hg] at e
  have hex : ∃ s, s ≤ m ∧ (1 ≤ s ∧ (b : Int) ∣ 1 + (a : Int) * (s : Int)) := by
    have h1 := Int.emod_nonneg (-u - 1) (show (b : Int) ≠ 0 by omega)
    have h2 := Int.emod_lt_of_pos (-u - 1) (show 0 < (b : Int) by omega)
    have h3 := Int.emod_def (-u - 1) (b : Int)
    refine ⟨((-u - 1) % (b : Int) + 1).toNat, by omega, by omega, ?_⟩
    rw [Int.toNat_of_nonneg (by omega), h3]
    exact ⟨v - (a : Int) * ((-u - 1) / (b : Int)), by grind⟩
  obtain ⟨s, h1, ⟨h2, r, hr⟩, h3⟩ := greatest _ m hex
  refine ⟨r, s, by grind, by omega, by omega, ?_⟩
  intro t r' t1 t2 ht
  have := h3 t.toNat (by omega) ⟨by omega, by rw [Int.toNat_of_nonneg (by omega)]; exact ⟨r', by rw [← ht, Int.mul_comm]⟩⟩
  omega
theorem nextF_far {n x y r0 s0 : Int} (h : NextF n x y r0 s0) : n < s0 + y ∨ y ≤ 0 := by
  by_cases hy : y ≤ 0
  · exact .inr hy
  · left
    apply Int.not_le.mp
    intro h1
    have := h.max (s0 + y) (r0 + x) (by have := h.pos; omega) h1 (by have := h.one; grind)
    omega
/-- the least with s that is greater is not less than the next -/
theorem nextF_le {n x y r0 s0 s : Int} (h : NextF n x y r0 s0) (hx : 0 ≤ x) (hy : 1 ≤ y) (hs : 1 ≤ s) (hn : s ≤ n) : r0 * s ≤ (x * s / y + 1) * s0 ∧ (s < s0 → r0 * s < (x * s / y + 1) * s0) := by
  have e := Int.emod_def (x * s) y
  have e0 := Int.emod_nonneg (x * s) (show y ≠ 0 by omega)
  have e1 := Int.emod_lt_of_pos (x * s) (show 0 < y by omega)
  generalize x * s / y = d at *
  generalize x * s % y = m at *
  have key : y * ((d + 1) * s0 - r0 * s) = s0 * (y - m) - s := by
    have := h.one; grind
  have hf := (nextF_far h).resolve_right (by omega)
  have hp := h.pos
  have hm : s0 * 1 ≤ s0 * (y - m) := Int.mul_le_mul_of_nonneg_left (by omega) (by omega)
  have h1 : -1 < (d + 1) * s0 - r0 * s := by
    apply Int.lt_of_mul_lt_mul_left (a := y) _ (by omega)
    rw [key]; omega
  refine ⟨by omega, fun hlt => ?_⟩
  have h2 : 0 < (d + 1) * s0 - r0 * s := by
    apply Int.lt_of_mul_lt_mul_left (a := y) _ (by omega)
    rw [key]; omega
  omega
theorem nextF_at {n x y r0 s0 : Int} (h : NextF n x y r0 s0) (hy : 1 < y) : x * s0 / y + 1 = r0 := by
  have h1 : x * s0 = (y - 1) + y * (r0 - 1) := by have := h.one; grind
  rw [h1, Int.add_mul_ediv_left _ _ (by omega), Int.ediv_eq_zero_of_lt (by omega) (by omega)]
  omega
theorem nextF_at1 {n x r0 s0 : Int} (h : NextF n x 1 r0 s0) : x * s0 / 1 + 1 = r0 := by
  have := h.one; rw [Int.ediv_one]; omega
theorem unit_mul {p s : Int} (h : p * s = 1) : (p = 1 ∧ s = 1) ∨ (p = -1 ∧ s = -1) := by
  have h1 : p.natAbs * s.natAbs = 1 := by rw [← Int.natAbs_mul, h]; rfl
  have h2 := Nat.eq_one_of_mul_eq_one_right h1
  have h3 := Nat.eq_one_of_mul_eq_one_left h1
  rcases (show p = 1 ∨ p = -1 by omega) with hp | hp <;> rcases (show s = 1 ∨ s = -1 by omega) with hs | hs <;> subst hp hs <;> simp at h ⊢
/-- at the start -/
theorem nextF_start {n x y r0 s0 : Int} (h : NextF n x y r0 s0) (hx : 0 ≤ x) (hxy : x < y) : r0 ≤ s0 ∧ (r0 = s0 → r0 = 1 ∧ s0 = 1) ∧ 1 ≤ r0 := by
  have h0 := h.one
  have hp := h.pos
  have h1 : (x + 1) * s0 ≤ y * s0 := Int.mul_le_mul_of_nonneg_right (by omega) (by omega)
  have h2 : y * r0 ≤ y * s0 := by grind
  have h3 : r0 ≤ s0 := Int.le_of_mul_le_mul_left h2 (by omega)
  have h5 : 0 ≤ x * s0 := Int.mul_nonneg hx (by omega)
  refine ⟨h3, fun e => ?_, ?_⟩
  · subst e
    have h4 : r0 * (y - x) = 1 := by grind
    rcases unit_mul h4 with ⟨a, b⟩ | ⟨a, b⟩ <;> omega
  · apply Int.not_lt.mp
    intro h6
    have : r0 * y ≤ 0 * y := Int.mul_le_mul_of_nonneg_right (by omega) (by omega)
    omega
def rngA (n : Int) : Bool := decide (1 ≤ n) && decide (n ≤ 1000)
def rngB (n y : Int) : Bool := decide (1 ≤ y) && decide (y ≤ n)
def rngC (x y : Int) : Bool := decide (0 ≤ x) && decide (x ≤ y)
theorem rng_iff {n x y : Int} (hA : rngA n = true) (hB : rngB n y = true) (hC : rngC x y = true) : n ≤ 1000 ∧ y ≤ n ∧ 0 ≤ x ∧ x ≤ y := by
  unfold rngA at hA; unfold rngB at hB; unfold rngC at hC
  simp at hA hB hC
  omega
end Go.Proofs.Ytandannjdhnlmaa
