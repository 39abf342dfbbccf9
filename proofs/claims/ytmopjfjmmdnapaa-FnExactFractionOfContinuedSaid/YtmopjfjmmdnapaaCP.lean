/- Convergents in plain Lean: what the loops compute, and that a fraction's own convergents stay small. -/
import Derived.Test.YtmopjfjmmdnapaaAA
import Derived.Test.YtmopjfjmmdnapaaA
namespace Go.Proofs.Ytmopjfjmmdnapaa
open Plain (flo Cont)
/-- the convergents behind the columns (a, c) and (b, d), as a flat list; none past the limit -/
def convs : Int → Int → Int → Int → List Int → Option (List Int)
  | _, _, _, _, [] => some []
  | a, b, c, d, z :: zs => if ent (z * a + b) && ent (z * c + d) then (convs (z * a + b) a (z * c + d) c zs).map (fun l => (z * a + b) :: (z * c + d) :: l) else none
theorem convs_step {a b c d z : Int} {zs L : List Int} (h : convs a b c d (z :: zs) = some L) : ent (z * a + b) = true ∧ ent (z * c + d) = true ∧ ∃ l, L = (z * a + b) :: (z * c + d) :: l ∧ convs (z * a + b) a (z * c + d) c zs = some l := by
  rw [convs] at h
  split at h
  · rename_i he
    simp only [Bool.and_eq_true] at he
    obtain ⟨l, h1, h2⟩ := Option.map_eq_some_iff.mp h
    exact ⟨he.1, he.2, l, h2.symm, h1⟩
  · exact absurd h (by simp)
theorem convs_no {a b c d z : Int} {zs : List Int} (h : convs a b c d (z :: zs) = none) : (ent (z * a + b) && ent (z * c + d)) = false ∨ (ent (z * a + b) = true ∧ ent (z * c + d) = true ∧ convs (z * a + b) a (z * c + d) c zs = none) := by
  rw [convs] at h
  split at h
  · rename_i he
    simp only [Bool.and_eq_true] at he
    exact .inr ⟨he.1, he.2, by simpa using h⟩
  · rename_i he
    exact .inl (by simpa using he)
theorem convs_len {zs : List Int} : ∀ {a b c d : Int} {L : List Int}, convs a b c d zs = some L → L.length = 2 * zs.length := by
  induction zs with
  | nil => intro a b c d L h; simp [convs] at h; simp [h]
  | cons z zs ih =>
    intro a b c d L h
    obtain ⟨-, -, l, rfl, h2⟩ := convs_step h
    have := ih h2
    simp; omega
theorem mul_ge {a x : Int} (ha : 0 ≤ a) (hx : 1 ≤ x) : a ≤ a * x := by
  have := Int.mul_le_mul_of_nonneg_left hx ha
  omega
/-- the columns of one sign: no limit is met -/
theorem convs_pos (P Q : Int) (hP : P ≤ 1000000000) (hQ : Q ≤ 1000000000) : ∀ zs : List Int, ∀ x y a b c d s : Int, (s = 1 ∨ s = -1) → Cont x y zs → 0 ≤ y → y ≤ x → 0 ≤ s * a → 0 ≤ s * b → 0 ≤ c → 0 ≤ d → s * a * x + s * b * y = P → c * x + d * y = Q → ∃ L, convs a b c d zs = some L := by
  intro zs
  induction zs with
  | nil => intros; exact ⟨[], rfl⟩
  | cons z zs ih =>
    intro x y a b c d s hs hc hy hxy ha hb hcc hd h1 h2
    cases hc with
    | step _ _ _ hy0 hc2 =>
    obtain ⟨r0, r1⟩ := Plain.flo_rest x y hy0
    have hz : 0 ≤ flo x y := by
      rcases Int.lt_or_le (flo x y) 0 with h | h
      · exfalso
        have : flo x y * y ≤ (-1) * y := Int.mul_le_mul_of_nonneg_right (by omega) (by omega)
        omega
      · exact h
    generalize flo x y = z at *
    have e1 : s * (z * a + b) * y + s * a * (x - z * y) = P := by rw [← h1]; grind
    have e2 : (z * c + d) * y + c * (x - z * y) = Q := by rw [← h2]; grind
    have n1 : 0 ≤ s * (z * a + b) := by
      have : s * (z * a + b) = z * (s * a) + s * b := by grind
      have := Int.mul_nonneg hz ha
      omega
    have n2 : 0 ≤ z * c + d := by have := Int.mul_nonneg hz hcc; omega
    have m1 : s * (z * a + b) ≤ P := by
      have h3 := mul_ge n1 (show 1 ≤ y by omega)
      have h4 := Int.mul_nonneg ha r0
      omega
    have m2 : z * c + d ≤ Q := by
      have h3 := mul_ge n2 (show 1 ≤ y by omega)
      have h4 := Int.mul_nonneg hcc r0
      omega
    obtain ⟨l, hl⟩ := ih y (x - z * y) (z * a + b) a (z * c + d) c s hs hc2 r0 (by omega) n1 ha n2 hcc e1 e2
    have g1 : ent (z * a + b) = true := ent_iff.mpr (by rcases hs with rfl | rfl <;> omega)
    have g2 : ent (z * c + d) = true := ent_iff.mpr (by omega)
    exact ⟨_, by rw [convs, g1, g2, hl]; rfl⟩
/-- a fraction's own convergents stay small -/
theorem convs_own {p q : Int} {zs : List Int} (hp0 : -1000000000 ≤ p) (hp1 : p ≤ 1000000000) (hq0 : 0 < q) (hq1 : q ≤ 1000000000) (hc : Cont p q zs) : ∃ L, convs 1 0 0 1 zs = some L := by
  cases hc with
  | stop => omega
  | step _ _ l _ hc2 =>
  obtain ⟨r0, r1⟩ := Plain.flo_rest p q hq0
  have hz : ent (flo p q) = true := by
    apply ent_iff.mpr
    constructor
    · rcases Int.lt_or_le (flo p q) (-1000000000) with h | h
      · exfalso
        have : flo p q * q ≤ (-1000000001) * q := Int.mul_le_mul_of_nonneg_right (by omega) (by omega)
        omega
      · exact h
    · rcases Int.lt_or_le 1000000000 (flo p q) with h | h
      · exfalso
        have : 1000000001 * q ≤ flo p q * q := Int.mul_le_mul_of_nonneg_right (by omega) (by omega)
        omega
      · exact h
  have he := ent_iff.mp hz
  generalize hk : flo p q = z at *
  have e0 : z * 1 + 0 = z := by omega
  have e1 : z * 0 + 1 = (1 : Int) := by omega
  suffices H : ∃ L, convs z 1 1 0 l = some L by
    obtain ⟨L, hL⟩ := H
    exact ⟨_, by rw [convs, e0, e1, hz, hL]; rfl⟩
  rcases Int.lt_or_le z 0 with hneg | hpos
  · -- the second column's sign is the other one: one step by hand
    generalize hr : p - z * q = r at *
    cases hc2 with
    | stop => exact ⟨[], rfl⟩
    | step _ _ l hr0 hc3 =>
    obtain ⟨t0, t1⟩ := Plain.flo_rest q r (by omega)
    have hy : 1 ≤ flo q r := by
      rcases Int.lt_or_le (flo q r) 1 with h | h
      · exfalso
        have : flo q r * r ≤ 0 * r := Int.mul_le_mul_of_nonneg_right (by omega) (by omega)
        omega
      · exact h
    generalize flo q r = u at *
    have hd : p = z * q + r := by omega
    have uq : u * r ≤ q := by omega
    have ur : u ≤ u * r := mul_ge (by omega) (by omega)
    have uz : u * z + 1 ≤ 0 := by
      have : u * z ≤ 1 * z := Int.mul_le_mul_of_nonpos_right hy (by omega)
      omega
    -- p = z * q + r = (u * z + 1) * r + z * (q - u * r)
    have e2 : (-1) * (u * z + 1) * r + (-1) * z * (q - u * r) = -p := by rw [hd]; grind
    have e3 : u * 1 + 0 = u := by omega
    have e4 : u * r + 1 * (q - u * r) = q := by omega
    obtain ⟨L, hL⟩ := convs_pos (-p) q (by omega) hq1 l r (q - u * r) (u * z + 1) z u 1 (-1) (.inr rfl) hc3 t0 (by omega) (by omega) (by omega) (by omega) (by omega) e2 e4
    have m1 : (-1) * (u * z + 1) ≤ -p := by
      have h3 := mul_ge (show 0 ≤ (-1) * (u * z + 1) by omega) (show 1 ≤ r by omega)
      have h4 : 0 ≤ (-1) * z * (q - u * r) := Int.mul_nonneg (by omega) t0
      omega
    have g1 : ent (u * z + 1) = true := ent_iff.mpr (by omega)
    have g2 : ent u = true := ent_iff.mpr (by omega)
    exact ⟨_, by rw [convs, e3, g1, g2, hL]; rfl⟩
  · obtain ⟨L, hL⟩ := convs_pos p q hp1 hq1 l q (p - z * q) z 1 1 0 1 (.inl rfl) hc2 r0 (by omega) (by omega) (by omega) (by omega) (by omega) (by grind) (by omega)
    exact ⟨L, hL⟩
end Go.Proofs.Ytmopjfjmmdnapaa
