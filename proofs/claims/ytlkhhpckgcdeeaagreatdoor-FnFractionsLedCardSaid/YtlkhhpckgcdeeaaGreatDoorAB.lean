/- Plain: powers of a matrix. No program in sight. -/
namespace Go.Proofs.YtlkhhpckgcdeeaaGreatDoor.Plain
/-- four numbers -/
structure P4 where
  a : Int
  b : Int
  c : Int
  d : Int
namespace P4
def mul (m n : P4) : P4 := ⟨m.a * n.a + m.b * n.c, m.a * n.b + m.b * n.d, m.c * n.a + m.d * n.c, m.c * n.b + m.d * n.d⟩
def one : P4 := ⟨1, 0, 0, 1⟩
theorem mul_assoc (x y z : P4) : (x.mul y).mul z = x.mul (y.mul z) := by
  simp only [mul, P4.mk.injEq]
  refine ⟨?_, ?_, ?_, ?_⟩ <;> grind
theorem one_mul (x : P4) : one.mul x = x := by simp [mul, one]
theorem mul_one (x : P4) : x.mul one = x := by simp [mul, one]
def pow (m : P4) : Nat → P4
  | 0 => one
  | n + 1 => (pow m n).mul m
theorem pow_add (m : P4) (i j : Nat) : (m.pow i).mul (m.pow j) = m.pow (i + j) := by
  induction j with
  | zero => exact mul_one _
  | succ j ih => rw [← Nat.add_assoc, pow, pow, ← ih, mul_assoc]
def det (m : P4) : Int := m.a * m.d - m.b * m.c
def tr (m : P4) : Int := m.a + m.d
/-- Cayley and Hamilton -/
theorem pow_rec (m : P4) (h : m.det = 1) (n : Nat) : m.pow (n + 2) = ⟨m.tr * (m.pow (n + 1)).a - (m.pow n).a, m.tr * (m.pow (n + 1)).b - (m.pow n).b, m.tr * (m.pow (n + 1)).c - (m.pow n).c, m.tr * (m.pow (n + 1)).d - (m.pow n).d⟩ := by
  have e1 : m.pow (n + 2) = ((m.pow n).mul m).mul m := rfl
  have e2 : m.pow (n + 1) = (m.pow n).mul m := rfl
  rw [e1, e2]
  generalize m.pow n = x
  obtain ⟨a, b, c, d⟩ := m
  obtain ⟨p, q, r, s⟩ := x
  simp only [det] at h
  simp only [mul, tr, P4.mk.injEq]
  refine ⟨?_, ?_, ?_, ?_⟩ <;> grind
end P4
/-- the sequence 0, 1, t, .. of a trace; U t k stands for the k-th -/
def U (t : Int) : Nat → Int
  | 0 => 0
  | 1 => 1
  | n + 2 => t * U t (n + 1) - U t n
/-- the one before -/
def V (t : Int) : Nat → Int
  | 0 => -1
  | n + 1 => U t n
theorem U_succ (t : Int) (n : Nat) : U t (n + 1) = t * U t n - V t n := by
  cases n with
  | zero => simp [U, V]
  | succ n => rfl
theorem pow_U (m : P4) (h : m.det = 1) (n : Nat) : m.pow n = ⟨U m.tr n * m.a - V m.tr n, U m.tr n * m.b, U m.tr n * m.c, U m.tr n * m.d - V m.tr n⟩ := by
  suffices H : ∀ n, (m.pow n = ⟨U m.tr n * m.a - V m.tr n, U m.tr n * m.b, U m.tr n * m.c, U m.tr n * m.d - V m.tr n⟩) ∧ (m.pow (n + 1) = ⟨U m.tr (n + 1) * m.a - V m.tr (n + 1), U m.tr (n + 1) * m.b, U m.tr (n + 1) * m.c, U m.tr (n + 1) * m.d - V m.tr (n + 1)⟩) from (H n).1
  intro n
  induction n with
  | zero => exact ⟨by simp [P4.pow, P4.one, U, V], by simp [P4.pow, P4.one_mul, U, V]⟩
  | succ n ih =>
    refine ⟨ih.2, ?_⟩
    rw [P4.pow_rec m h n, ih.1, ih.2]
    have e1 := U_succ m.tr (n + 1)
    have e2 := U_succ m.tr n
    have e3 : V m.tr (n + 1) = U m.tr n := rfl
    have e4 : V m.tr (n + 2) = U m.tr (n + 1) := rfl
    simp only [P4.mk.injEq]
    rw [show n + 1 + 1 = n + 2 from rfl] at *
    refine ⟨?_, ?_, ?_, ?_⟩ <;> grind
/-- sequences of that kind grow -/
theorem grow_step {t x y : Int} (ht : 2 ≤ t.natAbs) (h : x.natAbs ≤ y.natAbs) : y.natAbs ≤ (t * y - x).natAbs := by
  have h1 : (t * y).natAbs = t.natAbs * y.natAbs := Int.natAbs_mul _ _
  have h2 : 2 * y.natAbs ≤ t.natAbs * y.natAbs := Nat.mul_le_mul_right _ ht
  omega
theorem U_grow (t : Int) (ht : 2 ≤ t.natAbs) (n : Nat) : (U t n).natAbs ≤ (U t (n + 1)).natAbs := by
  induction n with
  | zero => simp [U]
  | succ n ih => exact grow_step ht ih
theorem U_mono (t : Int) (ht : 2 ≤ t.natAbs) {i j : Nat} (h : i ≤ j) : (U t i).natAbs ≤ (U t j).natAbs := by
  induction h with
  | refl => exact Nat.le_refl _
  | step _ ih => exact Nat.le_trans ih (U_grow t ht _)
def big : Int := 1000000000
/-- the numbers are not too great -/
def P4.fit (m : P4) : Prop := m.a.natAbs ≤ 1000000000 ∧ m.b.natAbs ≤ 1000000000 ∧ m.c.natAbs ≤ 1000000000 ∧ m.d.natAbs ≤ 1000000000
/-- each number of the powers from the first on grows -/
theorem seq_grow (t : Int) (ht : 2 ≤ t.natAbs) (x : Nat → Int) (hr : ∀ n, x (n + 2) = t * x (n + 1) - x n) (h0 : (x 0).natAbs ≤ 1) (n : Nat) : (x (n + 1)).natAbs ≤ (x (n + 2)).natAbs := by
  have h12 : (x 1).natAbs ≤ (x 2).natAbs := by
    have e := hr 0
    rw [e]
    by_cases h : (x 0).natAbs ≤ (x 1).natAbs
    · exact grow_step ht h
    · have : x 1 = 0 := by omega
      rw [show (0 : Nat) + 1 = 1 from rfl, this]; simp
  induction n with
  | zero => exact h12
  | succ n ih => rw [hr (n + 1)]; exact grow_step ht ih
theorem fit_down (m : P4) (h : m.det = 1) (ht : 2 ≤ m.tr.natAbs) (n : Nat) (hf : (m.pow (n + 1)).fit) : (m.pow n).fit := by
  cases n with
  | zero => simp [P4.pow, P4.one, P4.fit]
  | succ n =>
    have e := P4.pow_rec m h
    have ga := seq_grow m.tr ht (fun k => (m.pow k).a) (fun k => by show (m.pow (k + 2)).a = _; rw [e k]) (by simp [P4.pow, P4.one]) n
    have gb := seq_grow m.tr ht (fun k => (m.pow k).b) (fun k => by show (m.pow (k + 2)).b = _; rw [e k]) (by simp [P4.pow, P4.one]) n
    have gc := seq_grow m.tr ht (fun k => (m.pow k).c) (fun k => by show (m.pow (k + 2)).c = _; rw [e k]) (by simp [P4.pow, P4.one]) n
    have gd := seq_grow m.tr ht (fun k => (m.pow k).d) (fun k => by show (m.pow (k + 2)).d = _; rw [e k]) (by simp [P4.pow, P4.one]) n
    obtain ⟨f1, f2, f3, f4⟩ := hf
    exact ⟨Nat.le_trans ga f1, Nat.le_trans gb f2, Nat.le_trans gc f3, Nat.le_trans gd f4⟩
theorem fit_mono (m : P4) (h : m.det = 1) (ht : 2 ≤ m.tr.natAbs) {i j : Nat} (hij : i ≤ j) (hf : (m.pow j).fit) : (m.pow i).fit := by
  induction hij with
  | refl => exact hf
  | step _ ih => exact ih (fit_down m h ht _ hf)
/-- where U is too great, so is the power: some number beside the diagonal is not 0 -/
theorem fit_U (m : P4) (h : m.det = 1) (hn : ¬ (m.b = 0 ∧ m.c = 0)) (n : Nat) (hf : (m.pow n).fit) : (U m.tr n).natAbs ≤ 1000000000 := by
  rw [pow_U m h n] at hf
  obtain ⟨_, f2, f3, _⟩ := hf
  simp only [Int.natAbs_mul] at f2 f3
  by_cases hb : m.b = 0
  · have hc : 1 ≤ m.c.natAbs := by omega
    exact Nat.le_trans (by have := Nat.mul_le_mul_left (U m.tr n).natAbs hc; omega) f3
  · have hc : 1 ≤ m.b.natAbs := by omega
    exact Nat.le_trans (by have := Nat.mul_le_mul_left (U m.tr n).natAbs hc; omega) f2
/-- the sequence of a trace of 2 or -2 -/
theorem U_two (n : Nat) : U 2 n = n ∧ U 2 (n + 1) = n + 1 := by
  induction n with
  | zero => simp [U]
  | succ n ih => refine ⟨by rw [ih.2]; omega, ?_⟩; show 2 * U 2 (n + 1) - U 2 n = _; rw [ih.1, ih.2]; omega
theorem U_neg (t : Int) (n : Nat) : (U (-t) n).natAbs = (U t n).natAbs := by
  suffices H : ∀ n, (U (-t) n = U t n ∧ U (-t) (n + 1) = - U t (n + 1)) ∨ (U (-t) n = - U t n ∧ U (-t) (n + 1) = U t (n + 1)) by
    rcases H n with h | h <;> omega
  intro n
  induction n with
  | zero => right; simp [U]
  | succ n ih =>
    rcases ih with ⟨h1, h2⟩ | ⟨h1, h2⟩
    · right; refine ⟨h2, ?_⟩
      show -t * U (-t) (n + 1) - U (-t) n = t * U t (n + 1) - U t n
      rw [h1, h2, Int.neg_mul_neg]
    · left; refine ⟨h2, ?_⟩
      show -t * U (-t) (n + 1) - U (-t) n = -(t * U t (n + 1) - U t n)
      rw [h1, h2, Int.neg_mul]; omega
/-- a trace of -1, 0 or 1: the sequence comes back -/
theorem U_small (t : Int) (ht : t.natAbs < 2) (n : Nat) : (U t n).natAbs ≤ 1 := by
  suffices H : ∀ n, (U t n).natAbs ≤ 1 ∧ (U t (n + 1)).natAbs ≤ 1 ∧ (t * U t (n + 1) - U t n).natAbs ≤ 1 from (H n).1
  intro n
  rcases (show t = 0 ∨ t = 1 ∨ t = -1 by omega) with rfl | rfl | rfl
  · induction n with
    | zero => simp [U]
    | succ n ih => refine ⟨ih.2.1, ih.2.2, ?_⟩; simp only [U, Int.zero_mul] at *; omega
  · induction n with
    | zero => simp [U]
    | succ n ih => refine ⟨ih.2.1, ih.2.2, ?_⟩; simp only [U, Int.one_mul] at *; omega
  · induction n with
    | zero => simp [U]
    | succ n ih => refine ⟨ih.2.1, ih.2.2, ?_⟩; simp only [U] at *; omega
end Go.Proofs.YtlkhhpckgcdeeaaGreatDoor.Plain
