/- Plain: powers of matrices of small trace; where a power is too great. -/
import Derived.Test.YtlkhhpckgcdeeaaGreatDoorAB
namespace Go.Proofs.YtlkhhpckgcdeeaaGreatDoor.Plain
/-- the pairs that the sequence of a small trace goes through -/
theorem UV_small (t : Int) (n : Nat) :
    (t = 0 → (U t n = 0 ∧ V t n = -1) ∨ (U t n = 1 ∧ V t n = 0) ∨ (U t n = 0 ∧ V t n = 1) ∨ (U t n = -1 ∧ V t n = 0)) ∧
    (t = 1 → (U t n = 0 ∧ V t n = -1) ∨ (U t n = 1 ∧ V t n = 0) ∨ (U t n = 1 ∧ V t n = 1) ∨ (U t n = 0 ∧ V t n = 1) ∨ (U t n = -1 ∧ V t n = 0) ∨ (U t n = -1 ∧ V t n = -1)) ∧
    (t = -1 → (U t n = 0 ∧ V t n = -1) ∨ (U t n = 1 ∧ V t n = 0) ∨ (U t n = -1 ∧ V t n = 1)) := by
  induction n with
  | zero => simp [U, V]
  | succ n ih =>
    obtain ⟨h0, h1, h2⟩ := ih
    have e := U_succ t n
    have e2 : V t (n + 1) = U t n := rfl
    refine ⟨fun ht => ?_, fun ht => ?_, fun ht => ?_⟩
    · subst ht; have := h0 rfl; simp only [Int.zero_mul] at e; omega
    · subst ht; have := h1 rfl; simp only [Int.one_mul] at e; omega
    · subst ht; have := h2 rfl; omega
theorem fit_small (m : P4) (h : m.det = 1) (ht : m.tr.natAbs < 2) (hf : m.fit) (n : Nat) : (m.pow n).fit := by
  obtain ⟨f1, f2, f3, f4⟩ := hf
  obtain ⟨s0, s1, s2⟩ := UV_small m.tr n
  rw [pow_U m h n]
  have htr : m.a + m.d = m.tr := rfl
  rcases (show m.tr = 0 ∨ m.tr = 1 ∨ m.tr = -1 by omega) with e | e | e
  · rcases s0 e with ⟨hu, hv⟩ | ⟨hu, hv⟩ | ⟨hu, hv⟩ | ⟨hu, hv⟩ <;> rw [hu, hv] <;> refine ⟨?_, ?_, ?_, ?_⟩ <;> simp only [] <;> omega
  · rcases s1 e with ⟨hu, hv⟩ | ⟨hu, hv⟩ | ⟨hu, hv⟩ | ⟨hu, hv⟩ | ⟨hu, hv⟩ | ⟨hu, hv⟩ <;> rw [hu, hv] <;> refine ⟨?_, ?_, ?_, ?_⟩ <;> simp only [] <;> omega
  · rcases s2 e with ⟨hu, hv⟩ | ⟨hu, hv⟩ | ⟨hu, hv⟩ <;> rw [hu, hv] <;> refine ⟨?_, ?_, ?_, ?_⟩ <;> simp only [] <;> omega
theorem pow_12 (m : P4) (h : m.det = 1) (ht : m.tr.natAbs < 2) : m.pow 12 = P4.one := by
  rw [pow_U m h 12]
  rcases (show m.tr = 0 ∨ m.tr = 1 ∨ m.tr = -1 by omega) with e | e | e <;> rw [e] <;> simp [U, V, P4.one]
theorem pow_12_unit (m : P4) (h : m = ⟨1, 0, 0, 1⟩ ∨ m = ⟨-1, 0, 0, -1⟩) : m.pow 12 = P4.one := by
  rcases h with rfl | rfl <;> simp [P4.pow, P4.mul, P4.one]
theorem pow_mod (m : P4) (h : m.pow 12 = P4.one) (n : Nat) : m.pow n = m.pow (n % 12) := by
  have key : ∀ j, m.pow (12 * j) = P4.one := by
    intro j
    induction j with
    | zero => rfl
    | succ j ih => rw [Nat.mul_succ, ← P4.pow_add, ih, h, P4.one_mul]
  conv => lhs; rw [← Nat.div_add_mod n 12, ← P4.pow_add, key, P4.one_mul]
theorem unit_cases {a d : Int} (h : a * d = 1) : (a = 1 ∧ d = 1) ∨ (a = -1 ∧ d = -1) := by
  have h1 : a.natAbs * d.natAbs = 1 := by rw [← Int.natAbs_mul, h]; rfl
  have h2 := Nat.eq_one_of_mul_eq_one_right h1
  have h3 := Nat.eq_one_of_mul_eq_one_left h1
  rcases (show a = 1 ∨ a = -1 by omega) with hp | hp <;> rcases (show d = 1 ∨ d = -1 by omega) with hs | hs <;> subst hp hs <;> simp at h ⊢
theorem U_unit (t : Int) (h : t = 2 ∨ t = -2) (n : Nat) : (U t n).natAbs = n := by
  rcases h with rfl | rfl
  · rw [(U_two n).1]; simp
  · rw [U_neg 2 n, (U_two n).1]; simp
/-- where the sequence is too great, so is the power -/
theorem U_limit (m : P4) (h : m.det = 1) (i n : Nat) (hin : i ≤ n) (hn : n ≤ 1000000) (hU : 1000000000 < (U m.tr i).natAbs) : ¬ (m.pow n).fit := by
  intro hf
  by_cases ht : m.tr.natAbs < 2
  · have := U_small m.tr ht i; omega
  · by_cases hb : m.b = 0 ∧ m.c = 0
    · have hd := h
      simp only [P4.det, hb.1, hb.2, Int.mul_zero, Int.sub_zero] at hd
      have ht2 : m.tr = 2 ∨ m.tr = -2 := by
        rcases unit_cases hd with ⟨e1, e2⟩ | ⟨e1, e2⟩ <;> simp [P4.tr, e1, e2]
      have := U_unit m.tr ht2 i
      omega
    · have := fit_U m h hb i (fit_mono m h (by omega) hin hf)
      omega
end Go.Proofs.YtlkhhpckgcdeeaaGreatDoor.Plain
