/- Products of matrices without a limit, in plain Lean; where the product with the limit is the same. -/
import Derived.Test.YtlkhhpckgcdeeaaGreatDoorHA
import Derived.Test.YtlkhhpckgcdeeaaGreatDoorAV
namespace Go.Proofs.YtlkhhpckgcdeeaaGreatDoor
open Go.RowKit
set_option linter.unusedVariables false
set_option linter.unusedSimpArgs false
def M4.det (m : M4) : Int := m.a * m.d - m.b * m.c
theorem M4.eq_of {x y : M4} (h1 : x.a = y.a) (h2 : x.b = y.b) (h3 : x.c = y.c) (h4 : x.d = y.d) : x = y := by
  cases x; cases y; simp at h1 h2 h3 h4; subst h1 h2 h3 h4; rfl
theorem M4.mul_assoc (x y z : M4) : (x.mul y).mul z = x.mul (y.mul z) := by
  apply M4.eq_of <;> simp only [M4.mul] <;> grind
theorem M4.mul_I (x : M4) : x.mul M4.I = x := by
  apply M4.eq_of <;> simp [M4.mul, M4.I]
theorem M4.I_mul (x : M4) : M4.I.mul x = x := by
  apply M4.eq_of <;> simp [M4.mul, M4.I]
theorem M4.det_mul (x y : M4) : (x.mul y).det = x.det * y.det := by
  simp only [M4.det, M4.mul]; grind
def exL : List M4 → M4
  | [] => M4.I
  | m :: l => m.mul (exL l)
theorem exL_append (l r : List M4) : exL (l ++ r) = (exL l).mul (exL r) := by
  induction l with
  | nil => exact (M4.I_mul _).symm
  | cons m l ih => show m.mul (exL (l ++ r)) = (m.mul (exL l)).mul (exL r); rw [ih, M4.mul_assoc]
theorem prodL_exact : ∀ (l : List M4) (m x : M4), prodL m l = some x → x = m.mul (exL l)
  | [], m, x, h => by
    have : some m = some x := h
    rw [show exL [] = M4.I from rfl, M4.mul_I]; exact (Option.some.inj this).symm
  | n :: l, m, x, h => by
    rw [prodL] at h
    split at h
    · rw [prodL_exact l _ x h, show exL (n :: l) = n.mul (exL l) from rfl, M4.mul_assoc]
    · exact absurd h (by simp)
theorem prodL_ent : ∀ (l : List M4) (m x : M4), m.ent = true → prodL m l = some x → x.ent = true
  | [], m, x, hm, h => by
    have : some m = some x := h
    rw [← Option.some.inj this]; exact hm
  | n :: l, m, x, hm, h => by
    rw [prodL] at h
    split at h
    · rename_i he
      exact prodL_ent l _ x he h
    · exact absurd h (by simp)
theorem I_ent : M4.I.ent = true := by decide
theorem exL_det : ∀ (l : List M4), (∀ m ∈ l, m.det = 1) → (exL l).det = 1
  | [], _ => by decide
  | m :: l, h => by
    show (m.mul (exL l)).det = 1
    rw [M4.det_mul, h m (by simp), exL_det l (fun x hx => h x (by simp [hx]))]; rfl
/-- no number below 0 -/
def M4.pos (m : M4) : Prop := 0 ≤ m.a ∧ 0 ≤ m.b ∧ 0 ≤ m.c ∧ 0 ≤ m.d
theorem I_pos : M4.I.pos := by unfold M4.pos M4.I; simp
theorem M4.pos_mul {x y : M4} (hx : x.pos) (hy : y.pos) : (x.mul y).pos := by
  obtain ⟨a1, a2, a3, a4⟩ := hx
  obtain ⟨b1, b2, b3, b4⟩ := hy
  unfold M4.pos M4.mul
  have := Int.mul_nonneg a1 b1
  have := Int.mul_nonneg a2 b3
  have := Int.mul_nonneg a1 b2
  have := Int.mul_nonneg a2 b4
  have := Int.mul_nonneg a3 b1
  have := Int.mul_nonneg a4 b3
  have := Int.mul_nonneg a3 b2
  have := Int.mul_nonneg a4 b4
  simp only []
  omega
theorem M4.pos_diag {x : M4} (hx : x.pos) (h : x.det = 1) : 1 ≤ x.a ∧ 1 ≤ x.d := by
  obtain ⟨a1, a2, a3, a4⟩ := hx
  unfold M4.det at h
  have := Int.mul_nonneg a2 a3
  constructor
  · rcases Int.lt_or_le x.a 1 with hl | hl
    · exfalso
      have e : x.a = 0 := by omega
      rw [e] at h; simp at h; omega
    · exact hl
  · rcases Int.lt_or_le x.d 1 with hl | hl
    · exfalso
      have e : x.d = 0 := by omega
      rw [e] at h; simp at h; omega
    · exact hl
theorem M4.pos_le {x y : M4} (hx : x.pos) (hy : y.pos) (h : y.det = 1) : x.a ≤ (x.mul y).a ∧ x.b ≤ (x.mul y).b ∧ x.c ≤ (x.mul y).c ∧ x.d ≤ (x.mul y).d := by
  obtain ⟨d1, d2⟩ := M4.pos_diag hy h
  obtain ⟨a1, a2, a3, a4⟩ := hx
  obtain ⟨b1, b2, b3, b4⟩ := hy
  have e1 := Int.mul_le_mul_of_nonneg_left d1 a1
  have e2 := Int.mul_le_mul_of_nonneg_left d2 a2
  have e3 := Int.mul_le_mul_of_nonneg_left d1 a3
  have e4 := Int.mul_le_mul_of_nonneg_left d2 a4
  have := Int.mul_nonneg a2 b3
  have := Int.mul_nonneg a1 b2
  have := Int.mul_nonneg a4 b3
  have := Int.mul_nonneg a3 b2
  unfold M4.mul
  simp only []
  omega
theorem exL_pos : ∀ (l : List M4), (∀ m ∈ l, m.pos) → (exL l).pos
  | [], _ => I_pos
  | m :: l, h => M4.pos_mul (h m (by simp)) (exL_pos l (fun x hx => h x (by simp [hx])))
theorem prodL_pos : ∀ (l : List M4) (m : M4), m.pos → (∀ x ∈ l, x.pos ∧ x.det = 1) → (m.mul (exL l)).ent = true → prodL m l = some (m.mul (exL l))
  | [], m, _, _, _ => by rw [show exL [] = M4.I from rfl, M4.mul_I]; rfl
  | n :: l, m, hm, h, he => by
    have e : m.mul (exL (n :: l)) = (m.mul n).mul (exL l) := by rw [show exL (n :: l) = n.mul (exL l) from rfl, M4.mul_assoc]
    have hn := h n (by simp)
    have hl : ∀ x ∈ l, x.pos ∧ x.det = 1 := fun x hx => h x (by simp [hx])
    have hp := M4.pos_mul hm hn.1
    have hle := M4.pos_le hp (exL_pos l (fun x hx => (hl x hx).1)) (exL_det l (fun x hx => (hl x hx).2))
    rw [e] at he ⊢
    have hx : (m.mul n).ent = true := by
      obtain ⟨a1, a2, a3, a4⟩ := M4.ent_iff.mp he
      obtain ⟨p1, p2, p3, p4⟩ := hp
      exact M4.ent_iff.mpr ⟨ent_iff.mpr (by have := ent_iff.mp a1; omega), ent_iff.mpr (by have := ent_iff.mp a2; omega), ent_iff.mpr (by have := ent_iff.mp a3; omega), ent_iff.mpr (by have := ent_iff.mp a4; omega)⟩
    rw [prodL, if_pos hx]
    exact prodL_pos l _ hp hl he
theorem isM_of {m : M4} (h1 : m.ent = true) (h2 : m.det = 1) : isM m.a m.b m.c m.d = true := by
  obtain ⟨a1, a2, a3, a4⟩ := M4.ent_iff.mp h1
  exact isM_iff.mpr ⟨ent_iff.mp a1, ent_iff.mp a2, ent_iff.mp a3, ent_iff.mp a4, h2⟩
theorem isM_to {a b c d : Int} (h : isM a b c d = true) : (⟨a, b, c, d⟩ : M4).ent = true ∧ (⟨a, b, c, d⟩ : M4).det = 1 := by
  obtain ⟨a1, a2, a3, a4, h5⟩ := isM_iff.mp h
  exact ⟨M4.ent_iff.mpr ⟨ent_iff.mpr a1, ent_iff.mpr a2, ent_iff.mpr a3, ent_iff.mpr a4⟩, h5⟩
end Go.Proofs.YtlkhhpckgcdeeaaGreatDoor
