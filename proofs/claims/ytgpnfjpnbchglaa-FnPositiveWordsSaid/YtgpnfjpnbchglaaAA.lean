/- Plain: whole quotients, chains, continued fractions, runs. No program in sight. -/
namespace Go.Proofs.Ytgpnfjpnbchglaa.Plain

/-- Go's quotient, lowered where the rest has the other sign -/
def flo (a b : Int) : Int := if a.tmod b ≠ 0 ∧ ¬ ((a < 0) ↔ (b < 0)) then a.tdiv b - 1 else a.tdiv b

theorem flo_pos {a b : Int} (hb : 0 < b) : b * flo a b ≤ a ∧ a < b * flo a b + b := by
  have h1 := Int.mul_tdiv_add_tmod a b
  have h2 := Int.tmod_lt_of_pos a hb
  have h3 : -b < a.tmod b := by have := Int.lt_tmod_of_pos a hb; omega
  have h4 : 0 ≤ a → 0 ≤ a.tmod b := fun h => Int.tmod_nonneg b h
  have h5 : a ≤ 0 → a.tmod b ≤ 0 := fun h => by
    have := Int.tmod_nonneg (a := -a) b (by omega)
    rw [Int.neg_tmod] at this; omega
  unfold flo
  split
  · rw [Int.mul_sub]; omega
  · omega
theorem flo_neg {a b : Int} (hb : b < 0) : a ≤ b * flo a b ∧ b * flo a b + b < a := by
  have h1 := Int.mul_tdiv_add_tmod a b
  have hb' : 0 < -b := by omega
  have e : a.tmod b = a.tmod (-b) := by rw [Int.tmod_neg]
  have h2 := Int.tmod_lt_of_pos a hb'
  have h3 : b < a.tmod (-b) := by have := Int.lt_tmod_of_pos a hb'; omega
  have h4 : 0 ≤ a → 0 ≤ a.tmod (-b) := fun h => Int.tmod_nonneg (-b) h
  have h5 : a ≤ 0 → a.tmod (-b) ≤ 0 := fun h => by
    have := Int.tmod_nonneg (a := -a) (-b) (by omega)
    rw [Int.neg_tmod] at this; omega
  unfold flo
  split
  · rw [Int.mul_sub]; omega
  · omega

theorem flo_unique_pos {a b q : Int} (hb : 0 < b) (h1 : b * q ≤ a) (h2 : a < b * q + b) : flo a b = q := by
  obtain ⟨h3, h4⟩ := flo_pos (a := a) hb
  have h5 : b * (flo a b) < b * (q + 1) := by rw [Int.mul_add]; omega
  have h6 : b * q < b * (flo a b + 1) := by rw [Int.mul_add]; omega
  have := Int.lt_of_mul_lt_mul_left h5 (by omega)
  have := Int.lt_of_mul_lt_mul_left h6 (by omega)
  omega

/-- the chain of a matrix: its sign and its numbers -/
inductive Chain : Int → Int → Int → Int → Int → List Int → Prop
  | stop (a b d : Int) : Chain a b 0 d a [a * b]
  | step (a b c d s : Int) (l : List Int) : c ≠ 0 → Chain c d (flo (2 * a + c) (2 * c) * c - a) (flo (2 * a + c) (2 * c) * d - b) s l → Chain a b c d s (flo (2 * a + c) (2 * c) :: l)

theorem round_bd (a c : Int) (hc : c ≠ 0) : 2 * (flo (2 * a + c) (2 * c) * c - a) ≤ c.natAbs ∧ -(c.natAbs : Int) ≤ 2 * (flo (2 * a + c) (2 * c) * c - a) := by
  rcases Int.lt_or_gt_of_ne hc with h | h
  · have := flo_neg (a := 2 * a + c) (b := 2 * c) (by omega)
    rw [Int.mul_assoc, Int.mul_comm c] at this
    omega
  · have := flo_pos (a := 2 * a + c) (b := 2 * c) (by omega)
    rw [Int.mul_assoc, Int.mul_comm c] at this
    omega

theorem round_det (a b c d q : Int) (h : a * d - b * c = 1) : c * (q * d - b) - d * (q * c - a) = 1 := by
  rw [Int.mul_sub, Int.mul_sub]
  have e : c * (q * d) = d * (q * c) := by rw [Int.mul_left_comm, Int.mul_left_comm d q c, Int.mul_comm c d]
  rw [e, Int.mul_comm c b, Int.mul_comm d a]
  omega

theorem round_d (c d c' d' : Int) (hc : c ≠ 0) (h1 : 2 * c' ≤ c.natAbs) (h2 : -(c.natAbs : Int) ≤ 2 * c') (hd : c * d' - d * c' = 1) (hd0 : -1000000000 ≤ d) (hd1 : d ≤ 1000000000) :
    -1000000000 ≤ d' ∧ d' ≤ 1000000000 := by
  have key : ∀ x : Int, 0 < x → 2 * c' ≤ x → -x ≤ 2 * c' → ∀ e : Int, (x * e - d * c' = 1 ∨ x * e - d * c' = -1 ∨ x * e + d * c' = 1 ∨ x * e + d * c' = -1) → -1000000000 ≤ e ∧ e ≤ 1000000000 := by
    intro x hx k1 k2 e he
    have p1 : 0 ≤ (x - 2 * c') * (1000000000 + d) := Int.mul_nonneg (by omega) (by omega)
    have p2 : 0 ≤ (x + 2 * c') * (1000000000 - d) := Int.mul_nonneg (by omega) (by omega)
    have p3 : 0 ≤ (x - 2 * c') * (1000000000 - d) := Int.mul_nonneg (by omega) (by omega)
    have p4 : 0 ≤ (x + 2 * c') * (1000000000 + d) := Int.mul_nonneg (by omega) (by omega)
    simp only [Int.sub_mul, Int.add_mul, Int.mul_sub, Int.mul_add, Int.mul_assoc] at p1 p2 p3 p4
    rw [Int.mul_comm d c'] at he
    constructor
    · apply Int.not_lt.mp; intro hlt
      have : 0 ≤ x * (-1000000001 - e) := Int.mul_nonneg (by omega) (by omega)
      rw [Int.mul_sub] at this
      omega
    · apply Int.not_lt.mp; intro hlt
      have : 0 ≤ x * (e - 1000000001) := Int.mul_nonneg (by omega) (by omega)
      rw [Int.mul_sub] at this
      omega
  rcases Int.lt_or_gt_of_ne hc with h | h
  · refine key (-c) (by omega) (by omega) (by omega) d' ?_
    rw [Int.neg_mul]; omega
  · exact key c h (by omega) (by omega) d' (by omega)

theorem chain_exists : ∀ n : Nat, ∀ a b c d : Int, c.natAbs ≤ n → ∃ s l, Chain a b c d s l ∧ l.length ≤ n + 1 := by
  intro n
  induction n with
  | zero =>
    intro a b c d h
    obtain rfl : c = 0 := by omega
    exact ⟨a, [a * b], .stop a b d, by simp⟩
  | succ n ih =>
    intro a b c d h
    by_cases hc : c = 0
    · subst hc; exact ⟨a, [a * b], .stop a b d, by simp⟩
    · have hb := round_bd a c hc
      obtain ⟨s, l, hl, hn⟩ := ih c d (flo (2 * a + c) (2 * c) * c - a) (flo (2 * a + c) (2 * c) * d - b) (by omega)
      exact ⟨s, _, .step a b c d s l hc hl, by simp; omega⟩

/-- the continued fraction of p / q -/
inductive Cont : Int → Int → List Int → Prop
  | stop (p : Int) : Cont p 0 []
  | step (p q : Int) (l : List Int) : 0 < q → Cont q (p - flo p q * q) l → Cont p q (flo p q :: l)

theorem flo_rest (p q : Int) (hq : 0 < q) : 0 ≤ p - flo p q * q ∧ p - flo p q * q < q := by
  have := flo_pos (a := p) hq
  rw [Int.mul_comm] at this
  omega

theorem cont_exists : ∀ n : Nat, ∀ p q : Int, 0 ≤ q → q ≤ n → ∃ l, Cont p q l ∧ l.length ≤ n := by
  intro n
  induction n with
  | zero =>
    intro p q h h'
    obtain rfl : q = 0 := by omega
    exact ⟨[], .stop p, by simp⟩
  | succ n ih =>
    intro p q h h'
    by_cases hq : q = 0
    · subst hq; exact ⟨[], .stop p, by simp⟩
    · have hb := flo_rest p q (by omega)
      obtain ⟨l, hl, hn⟩ := ih q (p - flo p q * q) (by omega) (by omega)
      exact ⟨_, .step p q l (by omega) hl, by simp; omega⟩

/-- how often a row can be taken from another one -/
def oft (a b c d : Int) : Int := if c = 0 then b / d else if d = 0 then a / c else min (a / c) (b / d)
/-- the runs of a matrix; at true the upper row is lowered first -/
inductive Runs : Bool → Int → Int → Int → Int → List Int → Prop
  | stop (t : Bool) : Runs t 1 0 0 1 []
  | up (a b c d : Int) (l : List Int) : ¬ (a = 1 ∧ b = 0 ∧ c = 0 ∧ d = 1) → Runs false (a - oft a b c d * c) (b - oft a b c d * d) c d l → Runs true a b c d (oft a b c d :: l)
  | down (a b c d : Int) (l : List Int) : ¬ (a = 1 ∧ b = 0 ∧ c = 0 ∧ d = 1) → Runs true a b (c - oft c d a b * a) (d - oft c d a b * b) l → Runs false a b c d (oft c d a b :: l)

theorem ediv_spec {a c : Int} (hc : 0 < c) : c * (a / c) ≤ a ∧ a < c * (a / c) + c := by
  have h1 := Int.mul_ediv_add_emod a c
  have h2 := Int.emod_nonneg a (show c ≠ 0 by omega)
  have h3 := Int.emod_lt_of_pos a hc
  omega
/-- what the count is: both rests are at least 0, and the row cannot be taken once more -/
theorem oft_spec {a b c d : Int} (ha : 0 ≤ a) (hb : 0 ≤ b) (hc : 0 ≤ c) (hd : 0 ≤ d) (hz : ¬ (c = 0 ∧ d = 0)) :
    0 ≤ oft a b c d ∧ 0 ≤ a - oft a b c d * c ∧ 0 ≤ b - oft a b c d * d ∧ ¬ (c ≤ a - oft a b c d * c ∧ d ≤ b - oft a b c d * d) := by
  unfold oft
  by_cases h1 : c = 0
  · rw [if_pos h1]
    have hd' : 0 < d := by omega
    have := ediv_spec (a := b) hd'
    have h0 := Int.ediv_nonneg hb hd
    rw [Int.mul_comm] at this
    subst h1
    simp only [Int.mul_zero]
    omega
  · rw [if_neg h1]
    have hc' : 0 < c := by omega
    have e1 := ediv_spec (a := a) hc'
    have n1 := Int.ediv_nonneg ha hc
    by_cases h2 : d = 0
    · rw [if_pos h2]
      subst h2
      rw [Int.mul_comm] at e1
      simp only [Int.mul_zero]
      omega
    · rw [if_neg h2]
      have hd' : 0 < d := by omega
      have e2 := ediv_spec (a := b) hd'
      have n2 := Int.ediv_nonneg hb hd
      rw [Int.mul_comm] at e1 e2
      rcases Int.le_total (a / c) (b / d) with h | h
      · rw [Int.min_eq_left h]
        have : (a / c) * d ≤ (b / d) * d := Int.mul_le_mul_of_nonneg_right h hd
        omega
      · rw [Int.min_eq_right h]
        have : (b / d) * c ≤ (a / c) * c := Int.mul_le_mul_of_nonneg_right h hc
        omega
/-- of two rows of a positive matrix other than the identity one can be taken from the other -/
theorem rows_le {a b c d : Int} (ha : 0 ≤ a) (hb : 0 ≤ b) (hc : 0 ≤ c) (hd : 0 ≤ d) (h : a * d - b * c = 1) (hi : ¬ (a = 1 ∧ b = 0 ∧ c = 0 ∧ d = 1)) :
    (c ≤ a ∧ d ≤ b) ∨ (a ≤ c ∧ b ≤ d) := by
  by_cases h1 : c ≤ a ∧ d ≤ b
  · exact .inl h1
  · by_cases h2 : a ≤ c ∧ b ≤ d
    · exact .inr h2
    · exfalso
      rcases (show (a < c ∧ d < b) ∨ (c < a ∧ b < d) by omega) with ⟨h3, h4⟩ | ⟨h3, h4⟩
      · have p1 : 0 ≤ (b - (d + 1)) * c := Int.mul_nonneg (by omega) (by omega)
        have p2 : 0 ≤ (d + 1) * (c - (a + 1)) := Int.mul_nonneg (by omega) (by omega)
        simp only [Int.sub_mul, Int.add_mul, Int.mul_sub, Int.mul_add] at p1 p2
        rw [Int.mul_comm d a] at p2
        omega
      · have p1 : 0 ≤ (a - (c + 1)) * d := Int.mul_nonneg (by omega) (by omega)
        have p2 : 0 ≤ (c + 1) * (d - (b + 1)) := Int.mul_nonneg (by omega) (by omega)
        simp only [Int.sub_mul, Int.add_mul, Int.mul_sub, Int.mul_add] at p1 p2
        rw [Int.mul_comm c b] at p2
        have hb0 : b = 0 := by omega
        have hc0 : c = 0 := by omega
        subst hb0 hc0
        have p3 : 0 ≤ (a - 1) * (d - 1) := Int.mul_nonneg (by omega) (by omega)
        simp only [Int.sub_mul, Int.mul_sub] at p3
        omega
theorem det_up {a b c d : Int} (k : Int) (h : a * d - b * c = 1) : (a - k * c) * d - (b - k * d) * c = 1 := by
  rw [Int.sub_mul, Int.sub_mul, Int.mul_assoc, Int.mul_assoc, Int.mul_comm c d]; omega
theorem det_down {a b c d : Int} (k : Int) (h : a * d - b * c = 1) : a * (d - k * b) - b * (c - k * a) = 1 := by
  rw [Int.mul_sub, Int.mul_sub, Int.mul_left_comm a k b, Int.mul_left_comm b k a, Int.mul_comm b a]; omega
theorem det_row {a b c d : Int} (h : a * d - b * c = 1) : ¬ (c = 0 ∧ d = 0) ∧ ¬ (a = 0 ∧ b = 0) := by
  constructor
  · rintro ⟨rfl, rfl⟩; simp at h
  · rintro ⟨rfl, rfl⟩; simp at h
/-- behind a first run: the runs are there -/
theorem runs_later : ∀ n : Nat, ∀ a b c d : Int, 0 ≤ a → 0 ≤ b → 0 ≤ c → 0 ≤ d → a * d - b * c = 1 → a + b + c + d ≤ n →
    (¬ (c ≤ a ∧ d ≤ b) → ∃ l, Runs false a b c d l ∧ l.length ≤ n) ∧ (¬ (a ≤ c ∧ b ≤ d) → ∃ l, Runs true a b c d l ∧ l.length ≤ n) := by
  intro n
  induction n with
  | zero =>
    intro a b c d ha hb hc hd h hn
    have := (det_row h).1
    omega
  | succ n ih =>
    intro a b c d ha hb hc hd h hn
    by_cases hi : a = 1 ∧ b = 0 ∧ c = 0 ∧ d = 1
    · obtain ⟨rfl, rfl, rfl, rfl⟩ := hi
      exact ⟨fun _ => ⟨[], .stop _, by simp⟩, fun _ => ⟨[], .stop _, by simp⟩⟩
    · have hr := rows_le ha hb hc hd h hi
      obtain ⟨z1, z2⟩ := det_row h
      constructor
      · intro hs
        obtain ⟨o1, o2, o3, o4⟩ := oft_spec hc hd ha hb z2
        have hk : oft c d a b ≠ 0 := by intro e; rw [e] at o4; omega
        have p1 : a ≤ oft c d a b * a := by have := Int.mul_le_mul_of_nonneg_right (show (1 : Int) ≤ oft c d a b by omega) ha; omega
        have p2 : b ≤ oft c d a b * b := by have := Int.mul_le_mul_of_nonneg_right (show (1 : Int) ≤ oft c d a b by omega) hb; omega
        obtain ⟨l, hl, hn'⟩ := (ih a b _ _ ha hb o2 o3 (det_down _ h) (by omega)).2 o4
        exact ⟨_, .down a b c d l hi hl, by simp; omega⟩
      · intro hs
        obtain ⟨o1, o2, o3, o4⟩ := oft_spec ha hb hc hd z1
        have hk : oft a b c d ≠ 0 := by intro e; rw [e] at o4; omega
        have p1 : c ≤ oft a b c d * c := by have := Int.mul_le_mul_of_nonneg_right (show (1 : Int) ≤ oft a b c d by omega) hc; omega
        have p2 : d ≤ oft a b c d * d := by have := Int.mul_le_mul_of_nonneg_right (show (1 : Int) ≤ oft a b c d by omega) hd; omega
        obtain ⟨l, hl, hn'⟩ := (ih _ _ c d o2 o3 hc hd (det_up _ h) (by omega)).1 o4
        exact ⟨_, .up a b c d l hi hl, by simp; omega⟩
theorem runs_exists (a b c d : Int) (ha : 0 ≤ a) (hb : 0 ≤ b) (hc : 0 ≤ c) (hd : 0 ≤ d) (h : a * d - b * c = 1) :
    ∃ l, Runs true a b c d l ∧ l.length ≤ (a + b + c + d).toNat + 1 := by
  by_cases hi : a = 1 ∧ b = 0 ∧ c = 0 ∧ d = 1
  · obtain ⟨rfl, rfl, rfl, rfl⟩ := hi
    exact ⟨[], .stop _, by simp⟩
  · obtain ⟨z1, z2⟩ := det_row h
    obtain ⟨o1, o2, o3, o4⟩ := oft_spec ha hb hc hd z1
    have p1 : 0 ≤ oft a b c d * c := Int.mul_nonneg o1 hc
    have p2 : 0 ≤ oft a b c d * d := Int.mul_nonneg o1 hd
    obtain ⟨l, hl, hn'⟩ := (runs_later (a + b + c + d).toNat _ _ c d o2 o3 hc hd (det_up _ h) (by omega)).1 o4
    exact ⟨_, .up a b c d l hi hl, by simp; omega⟩
end Go.Proofs.Ytgpnfjpnbchglaa.Plain
