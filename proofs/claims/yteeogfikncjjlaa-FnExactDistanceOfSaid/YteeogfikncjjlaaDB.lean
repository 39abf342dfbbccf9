/- Distances, in plain Lean: numbers r and s with p s - q r = 1, by whole quotients, their size. -/
import Derived.Test.YteeogfikncjjlaaDA
namespace Go.Proofs.Yteeogfikncjjlaa.Plain
theorem near_unique : ∀ (n m : Nat) (p q : Int), Near p q n → Near p q m → n = m
  | 0, m, p, q, h1, h2 => by
    cases h1
    cases h2 with
    | stop => rfl
    | step _ _ _ h => exact absurd rfl h
  | n + 1, m, p, q, h1, h2 => by
    cases h1 with
    | step _ _ _ hq h3 =>
    cases h2 with
    | stop => exact absurd rfl hq
    | step _ _ m' _ h4 => rw [near_unique n m' _ _ h3 h4]
/-- two pairs with p s - q r = 1 -/
theorem bez_uniq {p q r s r' s' : Int} (h1 : p * s - q * r = 1) (h2 : p * s' - q * r' = 1) : ∃ k, s = s' + k * q ∧ r = r' + k * p := by
  refine ⟨(r - r') * s' - (s - s') * r', ?_, ?_⟩ <;> grind
/-- the sizes of Euclid's coefficients: what is written as u q - v p, both parts of one sign -/
structure Sg (N p q a c : Int) : Prop where
  ex : ∃ u v : Int, ((u = a ∧ v = c) ∨ (u = -a ∧ v = -c)) ∧ N = u * q - v * p ∧ 0 ≤ u * q ∧ v * p ≤ 0
theorem tdiv_sgn (p q : Int) (hq : q ≠ 0) : (0 ≤ p → 0 ≤ p.tdiv q * q ∧ 0 ≤ p - p.tdiv q * q) ∧ (p ≤ 0 → p.tdiv q * q ≤ 0 ∧ p - p.tdiv q * q ≤ 0) := by
  have e : p - p.tdiv q * q = p.tmod q := by have := Int.mul_tdiv_add_tmod p q; rw [Int.mul_comm] at this; omega
  have key : ∀ x : Int, 0 ≤ x → 0 ≤ x.tdiv q * q := by
    intro x hx
    rcases Int.lt_or_gt_of_ne hq with h | h
    · have h1 : x.tdiv q ≤ 0 := by
        have h2 := Int.tdiv_nonneg hx (show 0 ≤ -q by omega)
        rw [Int.tdiv_neg] at h2
        omega
      have := Int.mul_nonneg (show 0 ≤ -(x.tdiv q) by omega) (show 0 ≤ -q by omega)
      rw [Int.neg_mul_neg] at this
      exact this
    · exact Int.mul_nonneg (Int.tdiv_nonneg hx (by omega)) (by omega)
  constructor
  · intro hp
    refine ⟨key p hp, ?_⟩
    rw [e]; exact Int.tmod_nonneg q hp
  · intro hp
    have h1 := key (-p) (by omega)
    rw [Int.neg_tdiv, Int.neg_mul] at h1
    have h2 := Int.tmod_nonneg q (show 0 ≤ -p by omega)
    rw [Int.neg_tmod] at h2
    rw [e]; omega
theorem sgn_cases {v p : Int} (h : v * p ≤ 0) : p = 0 ∨ (0 < p ∧ v ≤ 0) ∨ (p < 0 ∧ 0 ≤ v) := by
  rcases Int.lt_trichotomy p 0 with hp | hp | hp
  · refine .inr (.inr ⟨hp, ?_⟩)
    apply Int.not_lt.mp; intro hv
    have := Int.mul_pos (show 0 < -v by omega) (show 0 < -p by omega)
    rw [Int.neg_mul_neg] at this; omega
  · exact .inl hp
  · refine .inr (.inl ⟨hp, ?_⟩)
    apply Int.not_lt.mp; intro hv
    have := Int.mul_pos hv hp
    omega
theorem Sg.step {N p q a c : Int} (h : Sg N p q a c) (hq : q ≠ 0) : Sg N q (p - p.tdiv q * q) c (a - p.tdiv q * c) := by
  obtain ⟨u, v, huv, hN, h1, h2⟩ := h.ex
  obtain ⟨t1, t2⟩ := tdiv_sgn p q hq
  generalize p.tdiv q = n at *
  have e1 : N = -v * (p - n * q) - -(u - n * v) * q := by rw [hN]; grind
  have e2 : -(u - n * v) * q = v * (n * q) - u * q := by grind
  have h3 : 0 ≤ -v * (p - n * q) ∧ v * (n * q) ≤ 0 := by
    rcases sgn_cases h2 with hp | ⟨hp, hv⟩ | ⟨hp, hv⟩
    · have a1 := t1 (by omega)
      have a2 := t2 (by omega)
      have a3 : p - n * q = 0 := by omega
      have a4 : n * q = 0 := by omega
      rw [a3, a4]; simp
    · have a1 := t1 (by omega)
      have b1 := Int.mul_nonneg (show 0 ≤ -v by omega) a1.2
      have b2 := Int.mul_nonneg (show 0 ≤ -v by omega) a1.1
      rw [Int.neg_mul v (n * q)] at b2
      exact ⟨b1, by omega⟩
    · have a1 := t2 (by omega)
      have b1 := Int.mul_nonneg hv (show 0 ≤ -(p - n * q) by omega)
      have b2 := Int.mul_nonneg hv (show 0 ≤ -(n * q) by omega)
      rw [Int.mul_neg] at b1 b2
      rw [Int.neg_mul]
      exact ⟨b1, by omega⟩
  refine ⟨-v, -(u - n * v), ?_, e1, h3.1, by rw [e2]; omega⟩
  rcases huv with ⟨rfl, rfl⟩ | ⟨rfl, rfl⟩
  · exact .inr ⟨rfl, rfl⟩
  · exact .inl ⟨by omega, by rw [Int.mul_neg]; omega⟩
theorem abs_le_mul {v p : Int} (hp : p ≠ 0) : (v.natAbs : Int) ≤ ((v * p).natAbs : Int) := by
  rw [Int.natAbs_mul]
  have h1 : 1 ≤ p.natAbs := by omega
  have := Nat.mul_le_mul_left v.natAbs h1
  omega
theorem Sg.bd {N p q a c : Int} (h : Sg N p q a c) (hp : p ≠ 0) : -N ≤ c ∧ c ≤ N := by
  obtain ⟨u, v, huv, hN, h1, h2⟩ := h.ex
  have := abs_le_mul (v := v) hp
  rcases huv with ⟨rfl, rfl⟩ | ⟨rfl, rfl⟩ <;> omega
/-- where Euclid's loop stands -/
structure Bz (p0 q0 p q a b c d : Int) : Prop where
  ep : p = a * p0 + b * q0
  eq : q = c * p0 + d * q0
  g : Int.gcd p q = 1
  s1 : Sg q0 p q a c
  s2 : ∃ N, N = (p0.natAbs : Int) ∧ Sg N p q b d
theorem Bz.start {p0 q0 : Int} (hq : 0 ≤ q0) (hg : Int.gcd p0 q0 = 1) : Bz p0 q0 p0 q0 1 0 0 1 where
  ep := by simp
  eq := by simp
  g := hg
  s1 := ⟨1, 0, .inl ⟨rfl, rfl⟩, by simp, by simpa using hq, by simp⟩
  s2 := by
    refine ⟨_, rfl, ?_⟩
    rcases Int.le_total 0 p0 with h | h
    · exact ⟨0, -1, .inr ⟨by simp, rfl⟩, by omega, by simp, by omega⟩
    · exact ⟨0, 1, .inl ⟨rfl, rfl⟩, by omega, by simp, by omega⟩
theorem Bz.step {p0 q0 p q a b c d : Int} (h : Bz p0 q0 p q a b c d) (hq : q ≠ 0) : Bz p0 q0 q (p - p.tdiv q * q) c d (a - p.tdiv q * c) (b - p.tdiv q * d) where
  ep := h.eq
  eq := by have h1 := h.ep; have h2 := h.eq; generalize p.tdiv q = n; grind
  g := by
    have e : p - p.tdiv q * q = p + q * (-(p.tdiv q)) := by grind
    rw [e, Int.gcd_add_mul_left_right, Int.gcd_comm]
    exact h.g
  s1 := h.s1.step hq
  s2 := by obtain ⟨N, hN, h2⟩ := h.s2; exact ⟨N, hN, h2.step hq⟩
theorem Bz.bd {p0 q0 p q a b c d : Int} (h : Bz p0 q0 p q a b c d) (hp : p ≠ 0) : (-q0 ≤ c ∧ c ≤ q0) ∧ -(p0.natAbs : Int) ≤ d ∧ d ≤ (p0.natAbs : Int) := by
  obtain ⟨N, hN, h2⟩ := h.s2
  subst hN
  exact ⟨h.s1.bd hp, h2.bd hp⟩
theorem Bz.done {p0 q0 p a b c d : Int} (h : Bz p0 q0 p 0 a b c d) : (p = 1 ∨ p = -1) ∧ p0 * (a * p) - q0 * (-b * p) = 1 := by
  have hg := h.g
  have hp : p = 1 ∨ p = -1 := by rw [Int.gcd_zero_right] at hg; omega
  refine ⟨hp, ?_⟩
  have e : p0 * (a * p) - q0 * (-b * p) = p * (a * p0 + b * q0) := by grind
  rw [e, ← h.ep]
  rcases hp with rfl | rfl <;> rfl
/-- the columns of the reference's loop -/
structure Cv (p q x y m0 m1 m2 m3 : Int) : Prop where
  ep : p = m0 * x + m1 * y
  eq : q = m2 * x + m3 * y
  det : m0 * m3 - m1 * m2 = 1 ∨ m0 * m3 - m1 * m2 = -1
  n2 : 0 ≤ m2
  n3 : 0 ≤ m3
  hy : 0 ≤ y
  hyq : y ≤ q
  h2 : m2 ≤ q
  h3 : m3 ≤ q + 1
  b0 : -((p.natAbs : Int) + 1) ≤ m0 ∧ m0 ≤ (p.natAbs : Int) + 1
  b1 : -((p.natAbs : Int) + 1) ≤ m1 ∧ m1 ≤ (p.natAbs : Int) + 1
  g : Int.gcd x y = 1
theorem Cv.start {p q : Int} (hq : 0 < q) (hg : Int.gcd p q = 1) : Cv p q p q 1 0 0 1 where
  ep := by simp
  eq := by simp
  det := .inl (by simp)
  n2 := by simp
  n3 := by simp
  hy := by omega
  hyq := by omega
  h2 := by omega
  h3 := by omega
  b0 := by omega
  b1 := by omega
  g := hg
/-- one step, for a quotient z whose new column has no number below 0 -/
theorem Cv.step {p q x y m0 m1 m2 m3 : Int} (h : Cv p q x y m0 m1 m2 m3) (hq : 0 < q) (hy : 0 < y) (hz : 0 ≤ flo x y ∨ m2 = 0) :
    Cv p q y (x - flo x y * y) (flo x y * m0 + m1) m0 (flo x y * m2 + m3) m2 := by
  obtain ⟨r0, r1⟩ := flo_rest x y hy
  generalize flo x y = z at *
  obtain ⟨ep, eq, det, n2, n3, hy0, hyq, h2, h3, b0, b1, g⟩ := h
  have e2 : p = (z * m0 + m1) * y + m0 * (x - z * y) := by rw [ep]; grind
  have e3 : q = (z * m2 + m3) * y + m2 * (x - z * y) := by rw [eq]; grind
  have nn : 0 ≤ z * m2 + m3 := by
    rcases hz with hz | hz
    · have := Int.mul_nonneg hz n2; omega
    · rw [hz]; omega
  have p1 := Int.mul_nonneg n2 r0
  have hle : z * m2 + m3 ≤ q := by
    have := Int.mul_le_mul_of_nonneg_left (show 1 ≤ y by omega) nn
    omega
  have det' : (z * m0 + m1) * m2 - m0 * (z * m2 + m3) = 1 ∨ (z * m0 + m1) * m2 - m0 * (z * m2 + m3) = -1 := by
    have : (z * m0 + m1) * m2 - m0 * (z * m2 + m3) = -(m0 * m3 - m1 * m2) := by grind
    rw [this]
    rcases det with h | h <;> rw [h] <;> simp
  refine ⟨e2, e3, det', nn, n2, r0, by omega, hle, by omega, ?_, b0, ?_⟩
  · -- q * m0' = p * m2' + (+-) rest
    generalize hM : z * m0 + m1 = M at *
    generalize hK : z * m2 + m3 = K at *
    generalize hr : x - z * y = r at *
    have e4 : q * M = p * K + (M * m2 - m0 * K) * r := by rw [e2, e3]; grind
    have e5 : q * M ≤ p * K + r ∧ p * K - r ≤ q * M := by
      rcases det' with h | h <;> rw [h] at e4 <;> omega
    have e6 : p * K ≤ (p.natAbs : Int) * q ∧ -((p.natAbs : Int) * q) ≤ p * K := by
      have := Int.mul_le_mul_of_nonneg_left hle (show 0 ≤ (p.natAbs : Int) by omega)
      have h8 : p * K ≤ (p.natAbs : Int) * K := Int.mul_le_mul_of_nonneg_right (by omega) nn
      have h9 : -(p.natAbs : Int) * K ≤ p * K := Int.mul_le_mul_of_nonneg_right (by omega) nn
      rw [Int.neg_mul] at h9
      omega
    have e7 : q * ((p.natAbs : Int) + 1) = (p.natAbs : Int) * q + q := by grind
    constructor
    · apply Int.not_lt.mp; intro hlt
      have : q * M < q * (-((p.natAbs : Int) + 1)) := Int.mul_lt_mul_of_pos_left hlt hq
      rw [Int.mul_neg] at this
      omega
    · apply Int.not_lt.mp; intro hlt
      have : q * ((p.natAbs : Int) + 1) < q * M := Int.mul_lt_mul_of_pos_left hlt hq
      omega
  · have e : x - z * y = x + y * (-z) := by grind
    rw [e, Int.gcd_add_mul_left_right, Int.gcd_comm]
    exact g
theorem Cv.done {p q x m0 m1 m2 m3 : Int} (h : Cv p q x 0 m0 m1 m2 m3) (hx : 0 < x) : m0 = p ∧ m2 = q := by
  have hg := h.g
  have hx1 : x = 1 := by rw [Int.gcd_zero_right] at hg; omega
  have h1 := h.ep
  have h2 := h.eq
  subst hx1
  simp at h1 h2
  exact ⟨h1.symm, h2.symm⟩
end Go.Proofs.Yteeogfikncjjlaa.Plain
