/- Distances, in plain Lean: steps to the nearest whole number, and the count over the continued fraction. No program in sight. -/
import Derived.Test.YteeogfikncjjlaaAA
namespace Go.Proofs.Yteeogfikncjjlaa.Plain
/-- the program's steps: the nearest whole number is taken away, and the rest becomes the divisor -/
inductive Near : Int → Int → Nat → Prop
  | stop (p : Int) : Near p 0 0
  | step (p q : Int) (n : Nat) : q ≠ 0 → Near q ((p - flo (2 * p + q) (2 * q) * q).natAbs : Int) n → Near p q (n + 1)
/-- the reference's count over the numbers behind the first one -/
def G : Bool → List Int → Int
  | _, [] => 0
  | e, a :: l => if a = 1 ∧ e = false then G true l else 1 + G false l
theorem G_one (l : List Int) : G false (1 :: l) = G true l := by simp [G]
theorem G_two {a : Int} (e : Bool) (l : List Int) (h : 2 ≤ a) : G e (a :: l) = 1 + G false l := by
  rw [G, if_neg]; omega
theorem G_true (a : Int) (l : List Int) : G true (a :: l) = 1 + G false l := by
  rw [G, if_neg]; simp
theorem G_bd : ∀ (l : List Int) (e : Bool), 0 ≤ G e l ∧ G e l ≤ l.length
  | [], _ => by simp [G]
  | a :: l, e => by
    have h1 := G_bd l true
    have h2 := G_bd l false
    rw [G]
    split <;> simp only [List.length_cons] <;> omega
/-- all are at least 1, the last one at least 2 -/
def okT : List Int → Bool
  | [] => true
  | [a] => decide (2 ≤ a)
  | a :: b :: l => decide (1 ≤ a) && okT (b :: l)
theorem okT_pos {a : Int} {l : List Int} (h : okT (a :: l) = true) : 1 ≤ a := by
  cases l with
  | nil => simp [okT] at h; omega
  | cons b l => simp [okT] at h; omega
theorem okT_tail {a : Int} {l : List Int} (h : okT (a :: l) = true) : okT l = true := by
  cases l with
  | nil => rfl
  | cons b l => simp [okT] at h; exact h.2
theorem flo_ge {p q k : Int} (hq : 0 < q) (h : k * q ≤ p) : k ≤ flo p q := by
  obtain ⟨r0, r1⟩ := flo_rest p q hq
  rcases Int.lt_or_le (flo p q) k with hl | hl
  · exfalso
    have : flo p q * q ≤ (k - 1) * q := Int.mul_le_mul_of_nonneg_right (by omega) (by omega)
    rw [Int.sub_mul] at this
    omega
  · exact hl
theorem flo_eq {p q k : Int} (hq : 0 < q) (h1 : k * q ≤ p) (h2 : p < k * q + q) : flo p q = k :=
  flo_unique_pos hq (by rw [Int.mul_comm]; exact h1) (by rw [Int.mul_comm]; exact h2)
theorem cont_okT : ∀ (l : List Int) (p q : Int), Cont p q l → 0 ≤ q → q < p → okT l = true
  | [], _, _, _, _, _ => rfl
  | [a], p, q, h, hq, hp => by
    cases h with
    | step _ _ _ hq0 h2 =>
    have : (flo p q) * q = p := by
      have h3 : p - flo p q * q = 0 := by
        generalize p - flo p q * q = r at h2
        cases h2; rfl
      omega
    have hge := flo_ge (p := p) (k := 1) hq0 (by omega)
    have hne : flo p q ≠ 1 := by intro e; rw [e] at this; omega
    simp [okT]; omega
  | a :: b :: l, p, q, h, hq, hp => by
    cases h with
    | step _ _ _ hq0 h2 =>
    obtain ⟨r0, r1⟩ := flo_rest p q hq0
    have hge := flo_ge (p := p) (k := 1) hq0 (by omega)
    have := cont_okT (b :: l) q _ h2 r0 r1
    simp only [okT, this, Bool.and_true, decide_eq_true_eq]; omega
/-- the two counts agree -/
theorem near_cont : ∀ (k : Nat) (p q z : Int) (l : List Int), 0 < q → q ≤ k → Cont p q (z :: l) → ∃ n : Nat, (n : Int) = 1 + G false l ∧ Near p q n
  | 0, p, q, z, l, hq, hk, h => by omega
  | k + 1, p, q, z, l, hq, hk, h => by
    cases h with
    | step _ _ _ _ h2 =>
    obtain ⟨r0, r1⟩ := flo_rest p q hq
    generalize hz : flo p q = z at *
    obtain ⟨r, hr⟩ : ∃ r, p - z * q = r := ⟨_, rfl⟩
    rw [hr] at h2 r0 r1
    have e1 : p = z * q + r := by omega
    by_cases h0 : r = 0
    · subst h0
      have hn : flo (2 * p + q) (2 * q) = z := flo_eq (by omega) (by rw [e1]; grind) (by rw [e1]; grind)
      cases h2 with
      | stop => exact ⟨1, rfl, .step p q 0 (by omega) (by rw [hn, hr]; exact .stop q)⟩
      | step => omega
    · cases h2 with
      | stop => omega
      | step _ _ l' hr0 h3 =>
      by_cases h4 : 2 * r ≤ q
      · have ha : 2 ≤ flo q r := flo_ge hr0 (by omega)
        obtain ⟨n, hn, hN⟩ := near_cont k q r _ l' hr0 (by omega) (.step q r l' hr0 h3)
        refine ⟨n + 1, by rw [G_two _ _ ha, ← hn]; omega, .step p q n (by omega) ?_⟩
        by_cases h5 : 2 * r = q
        · have e : flo (2 * p + q) (2 * q) = z + 1 := flo_eq (by omega) (by rw [e1]; grind) (by rw [e1]; grind)
          have e' : ((p - (z + 1) * q).natAbs : Int) = r := by rw [Int.add_mul]; omega
          rw [e, e']; exact hN
        · have e : flo (2 * p + q) (2 * q) = z := flo_eq (by omega) (by rw [e1]; grind) (by rw [e1]; grind)
          have e' : ((p - z * q).natAbs : Int) = r := by omega
          rw [e, e']; exact hN
      · have ha : flo q r = 1 := flo_eq hr0 (by omega) (by omega)
        rw [ha] at h3 ⊢
        obtain ⟨t, ht⟩ : ∃ t, q - 1 * r = t := ⟨_, rfl⟩
        have e2 : q - r = t := by omega
        rw [ht] at h3
        cases h3 with
        | stop => omega
        | step _ _ l'' ht0 h4' =>
        obtain ⟨t0, t1⟩ := flo_rest r t ht0
        have e3 : flo q t = flo r t + 1 := flo_eq ht0 (by rw [Int.add_mul]; omega) (by rw [Int.add_mul]; omega)
        have h5 : Cont q t ((flo r t + 1) :: l'') := by
          rw [← e3]
          refine .step q t l'' ht0 ?_
          rw [e3, Int.add_mul, show q - (flo r t * t + 1 * t) = r - flo r t * t by omega]
          exact h4'
        obtain ⟨n, hn, hN⟩ := near_cont k q t _ l'' ht0 (by omega) h5
        refine ⟨n + 1, by rw [G_one, G_true, ← hn]; omega, .step p q n (by omega) ?_⟩
        have e : flo (2 * p + q) (2 * q) = z + 1 := flo_eq (by omega) (by rw [e1]; grind) (by rw [e1]; grind)
        have e' : ((p - (z + 1) * q).natAbs : Int) = t := by rw [Int.add_mul]; omega
        rw [e, e']; exact hN
/-- whole numbers more or less turn nothing -/
theorem near_shift {p q : Int} {n : Nat} (k : Int) (h : Near p q n) : Near (p + k * q) q n := by
  cases h with
  | stop => rw [Int.mul_zero, Int.add_zero]; exact .stop p
  | step _ _ m hq h2 =>
  refine .step _ q m hq ?_
  have e : flo (2 * (p + k * q) + q) (2 * q) = flo (2 * p + q) (2 * q) + k := by
    rcases Int.lt_or_gt_of_ne hq with hn | hn
    · have h1 := flo_neg (a := 2 * p + q) (b := 2 * q) (by omega)
      have h3 := flo_neg (a := 2 * (p + k * q) + q) (b := 2 * q) (by omega)
      generalize flo (2 * p + q) (2 * q) = u at *
      generalize flo (2 * (p + k * q) + q) (2 * q) = v at *
      have a1 : (2 * q) * (u + k - v) = 2 * q * u + 2 * (k * q) - 2 * q * v := by grind
      have h4 : 2 * q < (2 * q) * (u + k - v) ∧ (2 * q) * (u + k - v) < -(2 * q) := by omega
      have b1 : u + k - v < 1 := by
        apply Int.not_le.mp; intro hge
        have : (2 * q) * (u + k - v) ≤ (2 * q) * 1 := Int.mul_le_mul_of_nonpos_left (by omega) hge
        omega
      have b2 : -1 < u + k - v := by
        apply Int.not_le.mp; intro hge
        have : (2 * q) * (-1) ≤ (2 * q) * (u + k - v) := Int.mul_le_mul_of_nonpos_left (by omega) hge
        omega
      omega
    · have h1 := flo_pos (a := 2 * p + q) (b := 2 * q) (by omega)
      exact flo_unique_pos (by omega) (by grind) (by grind)
  rw [e, show p + k * q - (flo (2 * p + q) (2 * q) + k) * q = p - flo (2 * p + q) (2 * q) * q by grind]
  exact h2
/-- the other sign of the first number -/
theorem near_neg_p {p q : Int} {n : Nat} (hq0 : 0 ≤ q) (h : Near p q n) : Near (-p) q n := by
  cases h with
  | stop => exact .stop _
  | step _ _ m hq h2 =>
  refine .step _ q m hq ?_
  obtain ⟨r0, r1⟩ := flo_rest (2 * p + q) (2 * q) (by omega)
  generalize flo (2 * p + q) (2 * q) = u at *
  have e0 : u * (2 * q) = 2 * (u * q) := by grind
  by_cases h5 : 2 * p - 2 * (u * q) = -q
  · have e : flo (2 * -p + q) (2 * q) = -u + 1 := flo_eq (by omega) (by grind) (by grind)
    rw [e, show ((-p - (-u + 1) * q).natAbs : Int) = ((p - u * q).natAbs : Int) by rw [Int.add_mul, Int.neg_mul]; omega]
    exact h2
  · have e : flo (2 * -p + q) (2 * q) = -u := flo_eq (by omega) (by rw [show -u * (2 * q) = -(u * (2 * q)) by grind]; omega) (by rw [show -u * (2 * q) = -(u * (2 * q)) by grind]; omega)
    rw [e, show ((-p - -u * q).natAbs : Int) = ((p - u * q).natAbs : Int) by rw [Int.neg_mul]; omega]
    exact h2
/-- both signs turned -/
theorem near_neg {p q : Int} {n : Nat} (hq0 : 0 ≤ q) (h : Near p q n) : Near (-p) (-q) n := by
  cases h with
  | stop => exact .stop _
  | step _ _ m hq h2 =>
  refine .step _ _ m (by omega) ?_
  obtain ⟨r0, r1⟩ := flo_rest (2 * p + q) (2 * q) (by omega)
  have h3 := flo_neg (a := 2 * -p + -q) (b := 2 * -q) (by omega)
  generalize flo (2 * p + q) (2 * q) = u at *
  have e : flo (2 * -p + -q) (2 * -q) = u := by
    generalize flo (2 * -p + -q) (2 * -q) = v at *
    have e1 : 2 * -q * v = -(2 * q * v) := by grind
    have e2 : (2 * q) * (u - v) = u * (2 * q) - 2 * q * v := by grind
    have h4 : -(2 * q) < (2 * q) * (u - v) ∧ (2 * q) * (u - v) < 2 * q := by omega
    have b1 : u - v < 1 := by
      apply Int.not_le.mp; intro hge
      have : (2 * q) * 1 ≤ (2 * q) * (u - v) := Int.mul_le_mul_of_nonneg_left hge (by omega)
      omega
    have b2 : -1 < u - v := by
      apply Int.not_le.mp; intro hge
      have : (2 * q) * (u - v) ≤ (2 * q) * (-1) := Int.mul_le_mul_of_nonneg_left hge (by omega)
      omega
    omega
  rw [e, show ((-p - u * -q).natAbs : Int) = ((p - u * q).natAbs : Int) by rw [Int.mul_neg]; omega]
  exact near_neg_p (by omega) h2
end Go.Proofs.Yteeogfikncjjlaa.Plain
