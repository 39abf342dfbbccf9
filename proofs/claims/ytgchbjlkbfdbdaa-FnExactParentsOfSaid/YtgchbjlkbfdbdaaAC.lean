/- Plain: the way down the tree of fractions. No program in sight. -/
namespace Go.Proofs.Ytgchbjlkbfdbdaa.Plain
/-- the letters of the way down: u and v tell how far the fraction is from its right and from its left parent -/
inductive Walk : Int → Int → Int → Int → Int → Int → List UInt8 → Int → Int → Int → Int → Prop
  | stop (a b c d : Int) : Walk a b c d 1 1 [] a b c d
  | left (a b c d u v : Int) (l : List UInt8) (a' b' c' d' : Int) : v < u → Walk a b (a + c) (b + d) (u - v) v l a' b' c' d' → Walk a b c d u v (76 :: l) a' b' c' d'
  | right (a b c d u v : Int) (l : List UInt8) (a' b' c' d' : Int) : u < v → Walk (a + c) (b + d) c d u (v - u) l a' b' c' d' → Walk a b c d u v (82 :: l) a' b' c' d'
theorem gcd_sub_left {u v : Int} : Int.gcd (u - v) v = Int.gcd u v := by simp
theorem gcd_sub_right {u v : Int} : Int.gcd u (v - u) = Int.gcd u v := by simp
theorem walk_exists : ∀ n : Nat, ∀ a b c d u v : Int, 1 ≤ u → 1 ≤ v → Int.gcd u v = 1 → u + v ≤ n → ∃ l a' b' c' d', Walk a b c d u v l a' b' c' d' ∧ l.length ≤ n := by
  intro n
  induction n with
  | zero => intro a b c d u v hu hv _ hn; omega
  | succ n ih =>
    intro a b c d u v hu hv hg hn
    rcases Int.lt_trichotomy u v with h | h | h
    · obtain ⟨l, a', b', c', d', hw, hl⟩ := ih (a + c) (b + d) c d u (v - u) hu (by omega) (by rw [gcd_sub_right]; exact hg) (by omega)
      exact ⟨_, _, _, _, _, .right a b c d u v l a' b' c' d' h hw, by simp; omega⟩
    · subst h
      have : u = 1 := by rw [Int.gcd_self] at hg; omega
      subst this
      exact ⟨[], a, b, c, d, .stop a b c d, by simp⟩
    · obtain ⟨l, a', b', c', d', hw, hl⟩ := ih a b (a + c) (b + d) (u - v) v (by omega) hv (by rw [gcd_sub_left]; exact hg) (by omega)
      exact ⟨_, _, _, _, _, .left a b c d u v l a' b' c' d' h hw, by simp; omega⟩
/-- what holds on the way to p / q -/
structure On (p q a b c d u v : Int) : Prop where
  a0 : 0 ≤ a
  b0 : 0 ≤ b
  c0 : 0 ≤ c
  d0 : 0 ≤ d
  u1 : 1 ≤ u
  v1 : 1 ≤ v
  det : c * b - a * d = 1
  hp : p = a * u + c * v
  hq : q = b * u + d * v
theorem On.start {p q : Int} (hp : 1 ≤ p) (hq : 1 ≤ q) : On p q 0 1 1 0 q p := ⟨by omega, by omega, by omega, by omega, hq, hp, by omega, by omega, by omega⟩
theorem On.left {p q a b c d u v : Int} (h : On p q a b c d u v) (hl : v < u) : On p q a b (a + c) (b + d) (u - v) v := by
  obtain ⟨a0, b0, c0, d0, u1, v1, det, hp, hq⟩ := h
  refine ⟨a0, b0, by omega, by omega, by omega, v1, ?_, ?_, ?_⟩ <;> grind
theorem On.right {p q a b c d u v : Int} (h : On p q a b c d u v) (hl : u < v) : On p q (a + c) (b + d) c d u (v - u) := by
  obtain ⟨a0, b0, c0, d0, u1, v1, det, hp, hq⟩ := h
  refine ⟨by omega, by omega, c0, d0, u1, by omega, ?_, ?_, ?_⟩ <;> grind
theorem le_mul_one {a u : Int} (ha : 0 ≤ a) (hu : 1 ≤ u) : a ≤ a * u := by
  have := Int.mul_le_mul_of_nonneg_left hu ha
  omega
theorem On.bd {p q a b c d u v : Int} (h : On p q a b c d u v) : a + c ≤ p ∧ b + d ≤ q := by
  obtain ⟨a0, b0, c0, d0, u1, v1, det, hp, hq⟩ := h
  have := le_mul_one a0 u1; have := le_mul_one c0 v1; have := le_mul_one b0 u1; have := le_mul_one d0 v1
  omega
/-- what the comparing with the mediant sees -/
theorem On.cmp {p q a b c d u v : Int} (h : On p q a b c d u v) : p * (b + d) - (a + c) * q = v - u := by
  obtain ⟨a0, b0, c0, d0, u1, v1, det, hp, hq⟩ := h
  have e : p * (b + d) - (a + c) * q = (c * b - a * d) * (v - u) := by subst hp hq; grind
  rw [e, det]; omega
theorem On.eq {p q a b c d u v : Int} (h : On p q a b c d u v) (hu : u = 1) (hv : v = 1) : a + c = p ∧ b + d = q := by
  obtain ⟨a0, b0, c0, d0, u1, v1, det, hp, hq⟩ := h
  subst hu hv; omega
/-- the mediant is in lowest terms -/
theorem On.gcd {p q a b c d u v : Int} (h : On p q a b c d u v) : Int.gcd (a + c) (b + d) = 1 := by
  have hd := h.det
  have h1 : (Int.gcd (a + c) (b + d) : Int) ∣ (a + c) := Int.gcd_dvd_left ..
  have h2 : (Int.gcd (a + c) (b + d) : Int) ∣ (b + d) := Int.gcd_dvd_right ..
  have h3 : (Int.gcd (a + c) (b + d) : Int) ∣ (a + c) * b - a * (b + d) := Int.dvd_sub (Int.dvd_mul_of_dvd_left h1) (Int.dvd_mul_of_dvd_right h2)
  have e : (a + c) * b - a * (b + d) = 1 := by rw [Int.add_mul, Int.mul_add]; omega
  rw [e] at h3
  have := Int.le_of_dvd (by omega) h3
  have hne : Int.gcd (a + c) (b + d) ≠ 0 := by
    intro h0
    rw [h0] at h3
    simp at h3
  omega
theorem On.pos {p q a b c d u v : Int} (h : On p q a b c d u v) : 1 ≤ b + d := by
  have hd := h.det
  have := h.b0; have := h.d0
  apply Int.not_lt.mp; intro hlt
  obtain rfl : b = 0 := by omega
  obtain rfl : d = 0 := by omega
  simp at hd
end Go.Proofs.Ytgchbjlkbfdbdaa.Plain
