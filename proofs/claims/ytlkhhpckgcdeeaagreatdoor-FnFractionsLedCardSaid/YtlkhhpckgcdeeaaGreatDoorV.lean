/- Fractions led, kept, compared, and rests, in plain Lean: what the law FnFractionsLed asks. -/
import Derived.Test.YtlkhhpckgcdeeaaGreatDoorF
import Derived.Test.YtlkhhpckgcdeeaaGreatDoorH
import Derived.Test.YtlkhhpckgcdeeaaGreatDoorY
import Derived.Test.YtlkhhpckgcdeeaaGreatDoorW
import Derived.Deep.DeepCutAuto
namespace Go.Proofs.YtlkhhpckgcdeeaaGreatDoor
open Go.RowKit
set_option linter.unusedVariables false
set_option linter.unusedSimpArgs false
theorem gcd_mat {a b c d x y : Int} (h : a * d - b * c = 1) (hg : Int.gcd x y = 1) : Int.gcd (a * x + b * y) (c * x + d * y) = 1 := by
  have d1 := Int.gcd_dvd_left (a := a * x + b * y) (b := c * x + d * y)
  have d2 := Int.gcd_dvd_right (a := a * x + b * y) (b := c * x + d * y)
  generalize hd : (Int.gcd (a * x + b * y) (c * x + d * y) : Int) = g at d1 d2
  have h1 : g ∣ x := by
    have := Int.dvd_sub (Int.dvd_mul_of_dvd_right (b := d) d1) (Int.dvd_mul_of_dvd_right (b := b) d2)
    have e : d * (a * x + b * y) - b * (c * x + d * y) = x := by grind
    rwa [e] at this
  have h2 : g ∣ y := by
    have := Int.dvd_sub (Int.dvd_mul_of_dvd_right (b := a) d2) (Int.dvd_mul_of_dvd_right (b := c) d1)
    have e : a * (c * x + d * y) - c * (a * x + b * y) = y := by grind
    rwa [e] at this
  have h3 := Int.dvd_coe_gcd h1 h2
  rw [hg] at h3
  have h4 : g = 1 := by
    have h5 : 0 ≤ g := by rw [← hd]; omega
    have := Int.le_of_dvd (by decide) h3
    rcases (show g = 0 ∨ g = 1 by omega) with rfl | rfl
    · simp at h3
    · rfl
  rw [h4] at hd
  exact Int.ofNat.inj hd
theorem red_sign {P Q : Int} (hg : Int.gcd P Q = 1) : 0 ≤ redQ P Q ∧ (0 < redQ P Q ∨ redP P Q = 1) ∧ Int.gcd (redP P Q) (redQ P Q) = 1 ∧ ((P = redP P Q ∧ Q = redQ P Q) ∨ (P = -(redP P Q) ∧ Q = -(redQ P Q))) := by
  have hg' := hg
  unfold redP redQ
  rw [hg]
  simp only [Int.natCast_one, Int.ediv_one]
  split
  · rename_i h
    refine ⟨by omega, ?_, by rw [Int.gcd_neg, Int.neg_gcd]; exact hg', by omega⟩
    by_cases hq : Q = 0
    · subst hq
      rw [Int.gcd_zero_right] at hg'
      right; omega
    · left; omega
  · rename_i h
    refine ⟨by omega, ?_, hg', by omega⟩
    by_cases hq : Q = 0
    · subst hq
      rw [Int.gcd_zero_right] at hg'
      right; omega
    · left; omega
theorem red_ent {P Q : Int} (hg : Int.gcd P Q = 1) (he : (ent (redP P Q) && ent (redQ P Q)) = true) : isF (redP P Q) (redQ P Q) = true := by
  obtain ⟨h1, h2, h3, -⟩ := red_sign hg
  rw [Bool.and_eq_true] at he
  have e1 := ent_iff.mp he.1
  have e2 := ent_iff.mp he.2
  exact isF_iff.mpr ⟨e1, ⟨h1, e2.2⟩, h3, h2⟩
/-- a fraction is what its own numbers make, of either sign -/
theorem red_self {x y : Int} (h : isF x y = true) : (redP x y = x ∧ redQ x y = y) ∧ (redP (-x) (-y) = x ∧ redQ (-x) (-y) = y) := by
  obtain ⟨-, ⟨y0, -⟩, hg, hs⟩ := isF_iff.mp h
  have hg2 : Int.gcd (-x) (-y) = 1 := by rw [Int.gcd_neg, Int.neg_gcd]; exact hg
  obtain ⟨a1, a2, -, a3⟩ := red_sign hg
  obtain ⟨b1, b2, -, b3⟩ := red_sign hg2
  constructor <;> omega
/-- led back -/
theorem lead_back {a b c d x y : Int} (hd : a * d - b * c = 1) (h : isF x y = true) :
    redP (d * redP (a * x + b * y) (c * x + d * y) + -b * redQ (a * x + b * y) (c * x + d * y)) (-c * redP (a * x + b * y) (c * x + d * y) + a * redQ (a * x + b * y) (c * x + d * y)) = x ∧
    redQ (d * redP (a * x + b * y) (c * x + d * y) + -b * redQ (a * x + b * y) (c * x + d * y)) (-c * redP (a * x + b * y) (c * x + d * y) + a * redQ (a * x + b * y) (c * x + d * y)) = y := by
  obtain ⟨-, -, hg, -⟩ := isF_iff.mp h
  obtain ⟨-, -, -, h3⟩ := red_sign (gcd_mat hd hg)
  obtain ⟨s1, s2⟩ := red_self h
  generalize redP (a * x + b * y) (c * x + d * y) = u at *
  generalize redQ (a * x + b * y) (c * x + d * y) = v at *
  rcases h3 with ⟨e1, e2⟩ | ⟨e1, e2⟩
  · have f1 : d * u + -b * v = x := by rw [← e1, ← e2]; grind
    have f2 : -c * u + a * v = y := by rw [← e1, ← e2]; grind
    rw [f1, f2]; exact s1
  · have e1' : u = -(a * x + b * y) := by omega
    have e2' : v = -(c * x + d * y) := by omega
    have f1 : d * u + -b * v = -x := by rw [e1', e2']; grind
    have f2 : -c * u + a * v = -y := by rw [e1', e2']; grind
    rw [f1, f2]; exact s2
/-- what is kept: a vector that the matrix multiplies by 1 or by -1 -/
theorem kept_lead {a b c d x y e : Int} (he : e = 1 ∨ e = -1) (h : isF x y = true) (h1 : a * x + b * y = e * x) (h2 : c * x + d * y = e * y) :
    redP (a * x + b * y) (c * x + d * y) = x ∧ redQ (a * x + b * y) (c * x + d * y) = y := by
  obtain ⟨s1, s2⟩ := red_self h
  rw [h1, h2]
  rcases he with rfl | rfl
  · rw [Int.one_mul, Int.one_mul]; exact s1
  · rw [show -1 * x = -x by omega, show -1 * y = -y by omega]; exact s2
theorem sgn_neg (n : Int) : sgn (-n) = -(sgn n) := by
  unfold sgn
  split <;> split <;> (try split) <;> omega
theorem cmpF_anti (p q p' q' : Int) : cmpF p' q' p q = -(cmpF p q p' q') := by
  unfold cmpF
  rw [← sgn_neg]
  congr 1
  omega
theorem sgn_zero {n : Int} : sgn n = 0 ↔ n = 0 := by
  unfold sgn
  split
  · constructor <;> omega
  · split <;> constructor <;> omega
theorem dvd_cop {q p r : Int} (h : q ∣ p * r) (hc : Int.gcd q p = 1) : q ∣ r := by
  apply Int.natAbs_dvd_natAbs.mp
  have h1 : q.natAbs ∣ p.natAbs * r.natAbs := by rw [← Int.natAbs_mul]; exact Int.natAbs_dvd_natAbs.mpr h
  exact Nat.Coprime.dvd_of_dvd_mul_left hc h1
/-- two fractions that compare alike are one -/
theorem frac_eq {p q p' q' : Int} (h : isF p q = true) (h' : isF p' q' = true) (e : p * q' = p' * q) : p = p' ∧ q = q' := by
  obtain ⟨-, ⟨q0, -⟩, hg, hs⟩ := isF_iff.mp h
  obtain ⟨-, ⟨q0', -⟩, hg', hs'⟩ := isF_iff.mp h'
  have c1 : Int.gcd q p = 1 := by rw [Int.gcd_comm]; exact hg
  have c2 : Int.gcd q' p' = 1 := by rw [Int.gcd_comm]; exact hg'
  have d1 : q ∣ q' := by
    have : q ∣ p * q' := ⟨p', by rw [e, Int.mul_comm]⟩
    exact dvd_cop this c1
  have d2 : q' ∣ q := by
    have : q' ∣ p' * q := ⟨p, by rw [← e, Int.mul_comm]⟩
    exact dvd_cop this c2
  have eq : q = q' := Int.dvd_antisymm q0 q0' d1 d2
  subst eq
  refine ⟨?_, rfl⟩
  by_cases hz : q = 0
  · omega
  · exact Int.eq_of_mul_eq_mul_right hz e
theorem cmpF_zero {p q p' q' : Int} (h : isF p q = true) (h' : isF p' q' = true) : cmpF p q p' q' = 0 ↔ (p = p' ∧ q = q') := by
  unfold cmpF
  rw [sgn_zero]
  constructor
  · intro e; exact frac_eq h h' (by omega)
  · rintro ⟨rfl, rfl⟩; omega
/-- the rests of a matrix have the determinant 1, but for multiples -/
theorem rests_det {a b c d k : Int} (h : a * d - b * c = 1) (hk : 1 ≤ k) : ((a % k) * (d % k) - (b % k) * (c % k) - 1).tmod k = 0 := by
  have h1 : k ∣ (a % k) * (d % k) - (b % k) * (c % k) - 1 := by
    have e1 := Int.mul_ediv_add_emod a k
    have e2 := Int.mul_ediv_add_emod b k
    have e3 := Int.mul_ediv_add_emod c k
    have e4 := Int.mul_ediv_add_emod d k
    generalize a % k = a' at *
    generalize b % k = b' at *
    generalize c % k = c' at *
    generalize d % k = d' at *
    generalize a / k = a2 at *
    generalize b / k = b2 at *
    generalize c / k = c2 at *
    generalize d / k = d2 at *
    refine ⟨b2 * (k * c2 + c') + b' * c2 - a2 * (k * d2 + d') - a' * d2, ?_⟩
    rw [← e1, ← e2, ← e3, ← e4] at h
    grind
  exact Int.tmod_eq_zero_of_dvd h1
end Go.Proofs.YtlkhhpckgcdeeaaGreatDoor

/- What is kept, and that it is kept: one statement for both functions. -/
namespace Go.Proofs.YtlkhhpckgcdeeaaGreatDoor
open Go.RowKit
set_option linter.unusedVariables false
set_option linter.unusedSimpArgs false
theorem kept_all (p0 q0 r0 s0 : Int) : ∃ (x0 : Int) (x1 : Int) (x2 : Int), Hid (∀ w, Calls Tryz.prog 15 #[.agg #[.int .i64 p0, .int .i64 q0, .int .i64 r0, .int .i64 s0]] w fun e w' => e = .returned (.tuple #[.agg #[.int .i64 x0, .int .i64 x1], .int .i64 x2]) ∧ Below w.heap.size w w') ∧ Hid (∀ w, Calls Tryz.prog 16 #[.agg #[.int .i64 p0, .int .i64 q0, .int .i64 r0, .int .i64 s0]] w fun e w' => e = .returned (.tuple #[.agg #[.int .i64 x0, .int .i64 x1], .int .i64 x2]) ∧ Below w.heap.size w w') ∧
    (x2 = 0 → isM p0 q0 r0 s0 = true ∧ kindOf p0 q0 r0 s0 = 2 ∧ isF x0 x1 = true ∧ ∃ e : Int, (e = 1 ∨ e = -1) ∧ p0 * x0 + q0 * x1 = e * x0 ∧ r0 * x0 + s0 * x1 = e * x1) := by
  cases h : isM p0 q0 r0 s0
  · exact ⟨_, _, _, fun w => KeptFraction_no _ _ _ _ w h, fun w => sKeptFraction_no _ _ _ _ w h, by omega⟩
  · have hkk : kindOf p0 q0 r0 s0 = 0 ∨ kindOf p0 q0 r0 s0 = 1 ∨ kindOf p0 q0 r0 s0 = 2 ∨ kindOf p0 q0 r0 s0 = 3 := by unfold kindOf; grind
    rcases hkk with hk | hk | hk | hk
    · exact ⟨_, _, _, fun w => KeptFraction_state _ _ _ _ w h hk, fun w => sKeptFraction_state _ _ _ _ w h hk, by omega⟩
    · exact ⟨_, _, _, fun w => KeptFraction_far _ _ _ _ w h 1 hk (by decide) (by decide), fun w => sKeptFraction_far _ _ _ _ w h 1 hk (.inl rfl), by omega⟩
    · obtain ⟨e, he, hee, hs, hqr, hz⟩ := kept_cases h hk
      obtain ⟨⟨hp0, hp1⟩, ⟨hq0, hq1⟩, ⟨hr0, hr1⟩, ⟨hs0, hs1⟩, hdet⟩ := isM_iff.mp h
      have he2 : e = 1 ∨ e = -1 := by omega
      by_cases hr : r0 = 0
      · subst hr
        rw [Int.mul_zero] at hqr
        have hpe := sq_zero hqr
        have hq : q0 ≠ 0 := fun hq => hz ⟨hq, rfl⟩
        have e1 := red_mul (a := 1) (b := 0) (k := q0) (by decide) (.inr ⟨rfl, rfl⟩) hq
        rw [Int.mul_one, Int.mul_zero] at e1
        have e2 : e - p0 = 0 := by omega
        refine ⟨1, 0, 0, fun w => KeptFraction_inf _ _ _ w h hk, fun w => by
          have := sKeptFraction_b p0 q0 0 s0 e w h hk he (by omega) (by omega) hq
          rw [e2, e1.1, e1.2] at this; exact this, fun _ => ⟨rfl, hk, by decide, e, he2, by omega, by omega⟩⟩
      · have hq2 : redP (p0 - s0) (2 * r0) = redP (p0 - e) r0 ∧ redQ (p0 - s0) (2 * r0) = redQ (p0 - e) r0 :=
          red_eq (by subst hs; grind) (by omega) (by omega)
        have hent : (ent (redP (p0 - s0) (2 * r0)) && ent (redQ (p0 - s0) (2 * r0))) = true := by
          rw [hq2.1, hq2.2]; exact ediv_entK (ent_iff.mpr (by omega)) (ent_iff.mpr (by omega))
        have hfin : isF (redP (p0 - s0) (2 * r0)) (redQ (p0 - s0) (2 * r0)) = true ∧ p0 * redP (p0 - s0) (2 * r0) + q0 * redQ (p0 - s0) (2 * r0) = e * redP (p0 - s0) (2 * r0) ∧ r0 * redP (p0 - s0) (2 * r0) + s0 * redQ (p0 - s0) (2 * r0) = e * redQ (p0 - s0) (2 * r0) := by
          obtain ⟨a, b, k, g1, g2, g3, g4, g5⟩ := red_of (p := p0 - e) (q := r0) (by omega)
          have hm := red_mul (a := a) (b := b) (k := k) g1 g2 g3
          rw [← g4, ← g5] at hm
          rw [hq2.1, hq2.2, hm.1, hm.2] at hent ⊢
          rw [Bool.and_eq_true] at hent
          have i1 := ent_iff.mp hent.1
          have i2 := ent_iff.mp hent.2
          have hee2 : e * e = 1 := by rcases he2 with rfl | rfl <;> rfl
          refine ⟨isF_iff.mpr ⟨i1, ⟨by omega, i2.2⟩, g1, by omega⟩, ?_, ?_⟩
          · have : k * (p0 * a + q0 * b) = k * (e * a) := by
              have f1 : k * (p0 * a + q0 * b) = p0 * (p0 - e) + q0 * r0 := by rw [g4, g5]; grind
              have f2 : k * (e * a) = e * (p0 - e) := by rw [g4]; grind
              rw [f1, f2]
              subst hs
              grind
            exact Int.eq_of_mul_eq_mul_left g3 this
          · have : k * (r0 * a + s0 * b) = k * (e * b) := by
              have f1 : k * (r0 * a + s0 * b) = r0 * (p0 - e) + s0 * r0 := by rw [g4]; rw [show k * (r0 * a + s0 * b) = r0 * (k * a) + s0 * (k * b) by grind, ← g5]
              have f2 : k * (e * b) = e * r0 := by rw [show k * (e * b) = e * (k * b) by grind, ← g5]
              rw [f1, f2]
              subst hs
              grind
            exact Int.eq_of_mul_eq_mul_left g3 this
        by_cases hq : q0 = 0
        · subst hq
          rw [Int.zero_mul] at hqr
          have hpe := sq_zero hqr
          have h3 : redP (e - s0) r0 = redP (p0 - s0) (2 * r0) ∧ redQ (e - s0) r0 = redQ (p0 - s0) (2 * r0) :=
            red_eq (by rw [show e - s0 = 0 by omega, show p0 - s0 = 0 by omega]; simp) (by omega) (by omega)
          exact ⟨_, _, _, fun w => KeptFraction_yes _ _ _ _ w h hk hr hent, fun w => by
            have := sKeptFraction_c p0 r0 s0 e w h hk he (by omega) (by omega) hr
            rw [h3.1, h3.2] at this; exact this, fun _ => ⟨rfl, hk, hfin.1, e, he2, hfin.2.1, hfin.2.2⟩⟩
        · have h3 : redP q0 (e - p0) = redP (p0 - s0) (2 * r0) ∧ redQ q0 (e - p0) = redQ (p0 - s0) (2 * r0) :=
            red_eq (by subst hs; grind) (by omega) (by omega)
          exact ⟨_, _, _, fun w => KeptFraction_yes _ _ _ _ w h hk hr hent, fun w => by
            have := sKeptFraction_b p0 q0 r0 s0 e w h hk he (by omega) (by omega) hq
            rw [h3.1, h3.2] at this; exact this, fun _ => ⟨rfl, hk, hfin.1, e, he2, hfin.2.1, hfin.2.2⟩⟩
    · exact ⟨_, _, _, fun w => KeptFraction_far _ _ _ _ w h 3 hk (by decide) (by decide), fun w => sKeptFraction_far _ _ _ _ w h 3 hk (.inr rfl), by omega⟩
end Go.Proofs.YtlkhhpckgcdeeaaGreatDoor

/- The fraction to which a matrix leads another one. -/
namespace Go.Proofs.YtlkhhpckgcdeeaaGreatDoor
open Go.RowKit
set_option linter.unusedVariables false
set_option linter.unusedSimpArgs false
attribute [local go_sem] run_min_int4 run_max_int4
attribute [local go_sem] run_equalIn_M
attribute [local go_sem] run_equalIn_Q
theorem lead_nz {p q r s x y : Int} (h1 : isM p q r s = true) (h2 : isF x y = true) : ¬ (p * x + q * y = 0 ∧ r * x + s * y = 0) := by
  obtain ⟨-, -, -, -, hd⟩ := isM_iff.mp h1
  obtain ⟨-, -, hg, -⟩ := isF_iff.mp h2
  rintro ⟨e1, e2⟩
  have hx : x = 0 := by grind
  have hy : y = 0 := by grind
  subst hx hy
  simp at hg
/-- what the numbers of a lead are bounded by -/
theorem lead_bd {p q r s x y : Int} (h1 : isM p q r s = true) (h2 : isF x y = true) :
    ((-1000000000000000000 ≤ p * x ∧ p * x ≤ 1000000000000000000) ∧ (-1000000000000000000 ≤ q * y ∧ q * y ≤ 1000000000000000000)) ∧ ((-1000000000000000000 ≤ r * x ∧ r * x ≤ 1000000000000000000) ∧ (-1000000000000000000 ≤ s * y ∧ s * y ≤ 1000000000000000000)) := by
  obtain ⟨a1, a2, a3, a4, -⟩ := isM_iff.mp h1
  obtain ⟨-, -, -, e1, e2⟩ := isF_bd h2
  have b1 := ent_mul (ent_iff.mpr a1) e1
  have b2 := ent_mul (ent_iff.mpr a2) e2
  have b3 := ent_mul (ent_iff.mpr a3) e1
  have b4 := ent_mul (ent_iff.mpr a4) e2
  refine ⟨⟨?_, ?_⟩, ?_, ?_⟩ <;> omega
set_option maxHeartbeats 2000000 in
theorem LeadFraction_no (p q r s x y : Int) (w : World) (h : (isM p q r s && isF x y) = false) :
    Calls Tryz.prog 7 #[.agg #[.int .i64 p, .int .i64 q, .int .i64 r, .int .i64 s], .agg #[.int .i64 x, .int .i64 y]] w fun e w' => e = .returned (.tuple #[.agg #[.int .i64 0, .int .i64 0], .int .i64 1]) ∧ Below w.heap.size w w' := by
  cases m1 : isM p q r s
  · clear h
    go_enter Tryz.func7, Tryz.ntmps7
    go_wp2_with fail
    refine (IsMatrix_c _ _ _ _ _).mono ?_
    rintro e w1 ⟨rfl, b1⟩
    have zzb1 := b1.size; (try simp at zzb1); have zb1_0 : w.heap.size < w1.heap.size := (by omega); have kcb1_0 : ∀ o, w1.cell? ⟨w.heap.size, o, none⟩ = _ := fun o => b1.cell (p := ⟨w.heap.size, o, none⟩) (by go_size); have kfb1_0 : ∀ o, w1.frozen? ⟨w.heap.size, o, none⟩ = _ := fun o => b1.frozen (p := ⟨w.heap.size, o, none⟩) (by go_size); have zb1_1 : w.heap.size + 1 < w1.heap.size := (by omega); have kcb1_1 : ∀ o, w1.cell? ⟨w.heap.size + 1, o, none⟩ = _ := fun o => b1.cell (p := ⟨w.heap.size + 1, o, none⟩) (by go_size); have kfb1_1 : ∀ o, w1.frozen? ⟨w.heap.size + 1, o, none⟩ = _ := fun o => b1.frozen (p := ⟨w.heap.size + 1, o, none⟩) (by go_size); have zb1_2 : w.heap.size + 2 < w1.heap.size := (by omega); have kcb1_2 : ∀ o, w1.cell? ⟨w.heap.size + 2, o, none⟩ = _ := fun o => b1.cell (p := ⟨w.heap.size + 2, o, none⟩) (by go_size); have kfb1_2 : ∀ o, w1.frozen? ⟨w.heap.size + 2, o, none⟩ = _ := fun o => b1.frozen (p := ⟨w.heap.size + 2, o, none⟩) (by go_size); clear zzb1
    go_wp2
    exact bodyPost_ret (v := .tuple #[.agg #[.int .i64 0, .int .i64 0], .int .i64 1]) (by simp only [results, Tryz.results7]; go_simp) rfl ⟨rfl, (by repeat' (first | (with_reducible exact Below.refl _ _) | (with_reducible assumption) | (with_reducible refine below_drewN ?_ _) | (with_reducible refine Below.drew ?_) | (with_reducible refine Below.alloc ?_ ?_ _) | (with_reducible refine Below.setCell ?_ ?_ _) | (with_reducible refine Below.trans ?_ (Below.mono (by with_reducible assumption) ?_)) | go_size | (dsimp only; omega)))⟩
  · have m2 : isF x y = false := by simpa [m1] using h
    clear h
    go_enter Tryz.func7, Tryz.ntmps7
    go_wp2_with fail
    refine (IsMatrix_c _ _ _ _ _).mono ?_
    rintro e w1 ⟨rfl, b1⟩
    have zzb1 := b1.size; (try simp at zzb1); have zb1_0 : w.heap.size < w1.heap.size := (by omega); have kcb1_0 : ∀ o, w1.cell? ⟨w.heap.size, o, none⟩ = _ := fun o => b1.cell (p := ⟨w.heap.size, o, none⟩) (by go_size); have kfb1_0 : ∀ o, w1.frozen? ⟨w.heap.size, o, none⟩ = _ := fun o => b1.frozen (p := ⟨w.heap.size, o, none⟩) (by go_size); have zb1_1 : w.heap.size + 1 < w1.heap.size := (by omega); have kcb1_1 : ∀ o, w1.cell? ⟨w.heap.size + 1, o, none⟩ = _ := fun o => b1.cell (p := ⟨w.heap.size + 1, o, none⟩) (by go_size); have kfb1_1 : ∀ o, w1.frozen? ⟨w.heap.size + 1, o, none⟩ = _ := fun o => b1.frozen (p := ⟨w.heap.size + 1, o, none⟩) (by go_size); have zb1_2 : w.heap.size + 2 < w1.heap.size := (by omega); have kcb1_2 : ∀ o, w1.cell? ⟨w.heap.size + 2, o, none⟩ = _ := fun o => b1.cell (p := ⟨w.heap.size + 2, o, none⟩) (by go_size); have kfb1_2 : ∀ o, w1.frozen? ⟨w.heap.size + 2, o, none⟩ = _ := fun o => b1.frozen (p := ⟨w.heap.size + 2, o, none⟩) (by go_size); clear zzb1
    go_wp2_with fail
    refine (IsFraction_c _ _ _).mono ?_
    rintro e w2 ⟨rfl, b2⟩
    have zzb2 := b2.size; (try simp at zzb2); have zb2_0 : w.heap.size < w2.heap.size := (by omega); have kcb2_0 : ∀ o, w2.cell? ⟨w.heap.size, o, none⟩ = _ := fun o => b2.cell (p := ⟨w.heap.size, o, none⟩) (by go_size); have kfb2_0 : ∀ o, w2.frozen? ⟨w.heap.size, o, none⟩ = _ := fun o => b2.frozen (p := ⟨w.heap.size, o, none⟩) (by go_size); have zb2_1 : w.heap.size + 1 < w2.heap.size := (by omega); have kcb2_1 : ∀ o, w2.cell? ⟨w.heap.size + 1, o, none⟩ = _ := fun o => b2.cell (p := ⟨w.heap.size + 1, o, none⟩) (by go_size); have kfb2_1 : ∀ o, w2.frozen? ⟨w.heap.size + 1, o, none⟩ = _ := fun o => b2.frozen (p := ⟨w.heap.size + 1, o, none⟩) (by go_size); have zb2_2 : w.heap.size + 2 < w2.heap.size := (by omega); have kcb2_2 : ∀ o, w2.cell? ⟨w.heap.size + 2, o, none⟩ = _ := fun o => b2.cell (p := ⟨w.heap.size + 2, o, none⟩) (by go_size); have kfb2_2 : ∀ o, w2.frozen? ⟨w.heap.size + 2, o, none⟩ = _ := fun o => b2.frozen (p := ⟨w.heap.size + 2, o, none⟩) (by go_size); clear zzb2
    go_wp2
    exact bodyPost_ret (v := .tuple #[.agg #[.int .i64 0, .int .i64 0], .int .i64 1]) (by simp only [results, Tryz.results7]; go_simp) rfl ⟨rfl, (by repeat' (first | (with_reducible exact Below.refl _ _) | (with_reducible assumption) | (with_reducible refine below_drewN ?_ _) | (with_reducible refine Below.drew ?_) | (with_reducible refine Below.alloc ?_ ?_ _) | (with_reducible refine Below.setCell ?_ ?_ _) | (with_reducible refine Below.trans ?_ (Below.mono (by with_reducible assumption) ?_)) | go_size | (dsimp only; omega)))⟩
theorem LeadFraction_limit (p q r s x y : Int) (w : World) (m1 : isM p q r s = true) (m2 : isF x y = true) (he : (ent (redP (p * x + q * y) (r * x + s * y)) && ent (redQ (p * x + q * y) (r * x + s * y))) = false) :
    Calls Tryz.prog 7 #[.agg #[.int .i64 p, .int .i64 q, .int .i64 r, .int .i64 s], .agg #[.int .i64 x, .int .i64 y]] w fun e w' => e = .returned (.tuple #[.agg #[.int .i64 0, .int .i64 0], .int .i64 3]) ∧ Below w.heap.size w w' := by
  have HZ := Lib.hid (lead_nz m1 m2)
  have HE := Lib.hid he
  obtain ⟨⟨⟨a0, a1⟩, b0, b1⟩, ⟨c0, c1⟩, d0, d1⟩ := lead_bd m1 m2
  clear he
  go_enter Tryz.func7, Tryz.ntmps7
  go_wp2_with fail
  refine (IsMatrix_c _ _ _ _ _).mono ?_
  rintro e w1 ⟨rfl, b1⟩
  have zzb1 := b1.size; (try simp at zzb1); have zb1_0 : w.heap.size < w1.heap.size := (by omega); have kcb1_0 : ∀ o, w1.cell? ⟨w.heap.size, o, none⟩ = _ := fun o => b1.cell (p := ⟨w.heap.size, o, none⟩) (by go_size); have kfb1_0 : ∀ o, w1.frozen? ⟨w.heap.size, o, none⟩ = _ := fun o => b1.frozen (p := ⟨w.heap.size, o, none⟩) (by go_size); have zb1_1 : w.heap.size + 1 < w1.heap.size := (by omega); have kcb1_1 : ∀ o, w1.cell? ⟨w.heap.size + 1, o, none⟩ = _ := fun o => b1.cell (p := ⟨w.heap.size + 1, o, none⟩) (by go_size); have kfb1_1 : ∀ o, w1.frozen? ⟨w.heap.size + 1, o, none⟩ = _ := fun o => b1.frozen (p := ⟨w.heap.size + 1, o, none⟩) (by go_size); have zb1_2 : w.heap.size + 2 < w1.heap.size := (by omega); have kcb1_2 : ∀ o, w1.cell? ⟨w.heap.size + 2, o, none⟩ = _ := fun o => b1.cell (p := ⟨w.heap.size + 2, o, none⟩) (by go_size); have kfb1_2 : ∀ o, w1.frozen? ⟨w.heap.size + 2, o, none⟩ = _ := fun o => b1.frozen (p := ⟨w.heap.size + 2, o, none⟩) (by go_size); clear zzb1
  go_wp2_with fail
  refine (IsFraction_c _ _ _).mono ?_
  rintro e w2 ⟨rfl, b2⟩
  have zzb2 := b2.size; (try simp at zzb2); have zb2_0 : w.heap.size < w2.heap.size := (by omega); have kcb2_0 : ∀ o, w2.cell? ⟨w.heap.size, o, none⟩ = _ := fun o => b2.cell (p := ⟨w.heap.size, o, none⟩) (by go_size); have kfb2_0 : ∀ o, w2.frozen? ⟨w.heap.size, o, none⟩ = _ := fun o => b2.frozen (p := ⟨w.heap.size, o, none⟩) (by go_size); have zb2_1 : w.heap.size + 1 < w2.heap.size := (by omega); have kcb2_1 : ∀ o, w2.cell? ⟨w.heap.size + 1, o, none⟩ = _ := fun o => b2.cell (p := ⟨w.heap.size + 1, o, none⟩) (by go_size); have kfb2_1 : ∀ o, w2.frozen? ⟨w.heap.size + 1, o, none⟩ = _ := fun o => b2.frozen (p := ⟨w.heap.size + 1, o, none⟩) (by go_size); have zb2_2 : w.heap.size + 2 < w2.heap.size := (by omega); have kcb2_2 : ∀ o, w2.cell? ⟨w.heap.size + 2, o, none⟩ = _ := fun o => b2.cell (p := ⟨w.heap.size + 2, o, none⟩) (by go_size); have kfb2_2 : ∀ o, w2.frozen? ⟨w.heap.size + 2, o, none⟩ = _ := fun o => b2.frozen (p := ⟨w.heap.size + 2, o, none⟩) (by go_size); clear zzb2
  go_wp2_with fail
  refine (fraction_no (p * x + q * y) (r * x + s * y) _ (by omega) (by omega) (by omega) (by omega) HZ.out HE.out).mono ?_
  rintro e w3 ⟨rfl, b3⟩
  have zzb3 := b3.size; (try simp at zzb3); have zb3_0 : w.heap.size < w3.heap.size := (by omega); have kcb3_0 : ∀ o, w3.cell? ⟨w.heap.size, o, none⟩ = _ := fun o => b3.cell (p := ⟨w.heap.size, o, none⟩) (by go_size); have kfb3_0 : ∀ o, w3.frozen? ⟨w.heap.size, o, none⟩ = _ := fun o => b3.frozen (p := ⟨w.heap.size, o, none⟩) (by go_size); have zb3_1 : w.heap.size + 1 < w3.heap.size := (by omega); have kcb3_1 : ∀ o, w3.cell? ⟨w.heap.size + 1, o, none⟩ = _ := fun o => b3.cell (p := ⟨w.heap.size + 1, o, none⟩) (by go_size); have kfb3_1 : ∀ o, w3.frozen? ⟨w.heap.size + 1, o, none⟩ = _ := fun o => b3.frozen (p := ⟨w.heap.size + 1, o, none⟩) (by go_size); have zb3_2 : w.heap.size + 2 < w3.heap.size := (by omega); have kcb3_2 : ∀ o, w3.cell? ⟨w.heap.size + 2, o, none⟩ = _ := fun o => b3.cell (p := ⟨w.heap.size + 2, o, none⟩) (by go_size); have kfb3_2 : ∀ o, w3.frozen? ⟨w.heap.size + 2, o, none⟩ = _ := fun o => b3.frozen (p := ⟨w.heap.size + 2, o, none⟩) (by go_size); clear zzb3
  go_wp2
  exact bodyPost_ret (v := .tuple #[.agg #[.int .i64 0, .int .i64 0], .int .i64 3]) (by simp only [results, Tryz.results7]; go_simp) rfl ⟨rfl, (by repeat' (first | (with_reducible exact Below.refl _ _) | (with_reducible assumption) | (with_reducible refine below_drewN ?_ _) | (with_reducible refine Below.drew ?_) | (with_reducible refine Below.alloc ?_ ?_ _) | (with_reducible refine Below.setCell ?_ ?_ _) | (with_reducible refine Below.trans ?_ (Below.mono (by with_reducible assumption) ?_)) | go_size | (dsimp only; omega)))⟩
theorem LeadFraction_yes (p q r s x y : Int) (w : World) (m1 : isM p q r s = true) (m2 : isF x y = true) (he : (ent (redP (p * x + q * y) (r * x + s * y)) && ent (redQ (p * x + q * y) (r * x + s * y))) = true) :
    Calls Tryz.prog 7 #[.agg #[.int .i64 p, .int .i64 q, .int .i64 r, .int .i64 s], .agg #[.int .i64 x, .int .i64 y]] w fun e w' => e = .returned (.tuple #[.agg #[.int .i64 (redP (p * x + q * y) (r * x + s * y)), .int .i64 (redQ (p * x + q * y) (r * x + s * y))], .int .i64 0]) ∧ Below w.heap.size w w' := by
  have HZ := Lib.hid (lead_nz m1 m2)
  have HE := Lib.hid he
  obtain ⟨⟨⟨a0, a1⟩, b0, b1⟩, ⟨c0, c1⟩, d0, d1⟩ := lead_bd m1 m2
  clear he
  go_enter Tryz.func7, Tryz.ntmps7
  go_wp2_with fail
  refine (IsMatrix_c _ _ _ _ _).mono ?_
  rintro e w1 ⟨rfl, b1⟩
  have zzb1 := b1.size; (try simp at zzb1); have zb1_0 : w.heap.size < w1.heap.size := (by omega); have kcb1_0 : ∀ o, w1.cell? ⟨w.heap.size, o, none⟩ = _ := fun o => b1.cell (p := ⟨w.heap.size, o, none⟩) (by go_size); have kfb1_0 : ∀ o, w1.frozen? ⟨w.heap.size, o, none⟩ = _ := fun o => b1.frozen (p := ⟨w.heap.size, o, none⟩) (by go_size); have zb1_1 : w.heap.size + 1 < w1.heap.size := (by omega); have kcb1_1 : ∀ o, w1.cell? ⟨w.heap.size + 1, o, none⟩ = _ := fun o => b1.cell (p := ⟨w.heap.size + 1, o, none⟩) (by go_size); have kfb1_1 : ∀ o, w1.frozen? ⟨w.heap.size + 1, o, none⟩ = _ := fun o => b1.frozen (p := ⟨w.heap.size + 1, o, none⟩) (by go_size); have zb1_2 : w.heap.size + 2 < w1.heap.size := (by omega); have kcb1_2 : ∀ o, w1.cell? ⟨w.heap.size + 2, o, none⟩ = _ := fun o => b1.cell (p := ⟨w.heap.size + 2, o, none⟩) (by go_size); have kfb1_2 : ∀ o, w1.frozen? ⟨w.heap.size + 2, o, none⟩ = _ := fun o => b1.frozen (p := ⟨w.heap.size + 2, o, none⟩) (by go_size); clear zzb1
  go_wp2_with fail
  refine (IsFraction_c _ _ _).mono ?_
  rintro e w2 ⟨rfl, b2⟩
  have zzb2 := b2.size; (try simp at zzb2); have zb2_0 : w.heap.size < w2.heap.size := (by omega); have kcb2_0 : ∀ o, w2.cell? ⟨w.heap.size, o, none⟩ = _ := fun o => b2.cell (p := ⟨w.heap.size, o, none⟩) (by go_size); have kfb2_0 : ∀ o, w2.frozen? ⟨w.heap.size, o, none⟩ = _ := fun o => b2.frozen (p := ⟨w.heap.size, o, none⟩) (by go_size); have zb2_1 : w.heap.size + 1 < w2.heap.size := (by omega); have kcb2_1 : ∀ o, w2.cell? ⟨w.heap.size + 1, o, none⟩ = _ := fun o => b2.cell (p := ⟨w.heap.size + 1, o, none⟩) (by go_size); have kfb2_1 : ∀ o, w2.frozen? ⟨w.heap.size + 1, o, none⟩ = _ := fun o => b2.frozen (p := ⟨w.heap.size + 1, o, none⟩) (by go_size); have zb2_2 : w.heap.size + 2 < w2.heap.size := (by omega); have kcb2_2 : ∀ o, w2.cell? ⟨w.heap.size + 2, o, none⟩ = _ := fun o => b2.cell (p := ⟨w.heap.size + 2, o, none⟩) (by go_size); have kfb2_2 : ∀ o, w2.frozen? ⟨w.heap.size + 2, o, none⟩ = _ := fun o => b2.frozen (p := ⟨w.heap.size + 2, o, none⟩) (by go_size); clear zzb2
  go_wp2_with fail
  refine (fraction_yes (p * x + q * y) (r * x + s * y) _ (by omega) (by omega) (by omega) (by omega) HZ.out HE.out).mono ?_
  rintro e w3 ⟨rfl, b3⟩
  have zzb3 := b3.size; (try simp at zzb3); have zb3_0 : w.heap.size < w3.heap.size := (by omega); have kcb3_0 : ∀ o, w3.cell? ⟨w.heap.size, o, none⟩ = _ := fun o => b3.cell (p := ⟨w.heap.size, o, none⟩) (by go_size); have kfb3_0 : ∀ o, w3.frozen? ⟨w.heap.size, o, none⟩ = _ := fun o => b3.frozen (p := ⟨w.heap.size, o, none⟩) (by go_size); have zb3_1 : w.heap.size + 1 < w3.heap.size := (by omega); have kcb3_1 : ∀ o, w3.cell? ⟨w.heap.size + 1, o, none⟩ = _ := fun o => b3.cell (p := ⟨w.heap.size + 1, o, none⟩) (by go_size); have kfb3_1 : ∀ o, w3.frozen? ⟨w.heap.size + 1, o, none⟩ = _ := fun o => b3.frozen (p := ⟨w.heap.size + 1, o, none⟩) (by go_size); have zb3_2 : w.heap.size + 2 < w3.heap.size := (by omega); have kcb3_2 : ∀ o, w3.cell? ⟨w.heap.size + 2, o, none⟩ = _ := fun o => b3.cell (p := ⟨w.heap.size + 2, o, none⟩) (by go_size); have kfb3_2 : ∀ o, w3.frozen? ⟨w.heap.size + 2, o, none⟩ = _ := fun o => b3.frozen (p := ⟨w.heap.size + 2, o, none⟩) (by go_size); clear zzb3
  go_wp2
  exact bodyPost_ret (v := .tuple #[.agg #[.int .i64 (redP (p * x + q * y) (r * x + s * y)), .int .i64 (redQ (p * x + q * y) (r * x + s * y))], .int .i64 0]) (by simp only [results, Tryz.results7]; go_simp) rfl ⟨rfl, (by repeat' (first | (with_reducible exact Below.refl _ _) | (with_reducible assumption) | (with_reducible refine below_drewN ?_ _) | (with_reducible refine Below.drew ?_) | (with_reducible refine Below.alloc ?_ ?_ _) | (with_reducible refine Below.setCell ?_ ?_ _) | (with_reducible refine Below.trans ?_ (Below.mono (by with_reducible assumption) ?_)) | go_size | (dsimp only; omega)))⟩
theorem l01Lead_no (p q r s x y : Int) (w : World) (m1 : isM p q r s = true) (m2 : isF x y = true) (he : (ent (redP (p * x + q * y) (r * x + s * y)) && ent (redQ (p * x + q * y) (r * x + s * y))) = false) :
    Calls Tryz.prog 70 #[.agg #[.int .i64 p, .int .i64 q, .int .i64 r, .int .i64 s], .agg #[.int .i64 x, .int .i64 y]] w fun e w' => e = .returned (.tuple #[.agg #[.int .i64 0, .int .i64 0], .bool false]) ∧ Below w.heap.size w w' := by
  have HZ := Lib.hid (lead_nz m1 m2)
  obtain ⟨⟨⟨a0, a1⟩, b0, b1⟩, ⟨c0, c1⟩, d0, d1⟩ := lead_bd m1 m2
  generalize hX : redP (p * x + q * y) (r * x + s * y) = X at he
  generalize hY : redQ (p * x + q * y) (r * x + s * y) = Y at he
  have HX := Lib.hid hX
  have HY := Lib.hid hY
  clear hX hY
  cases e1 : ent X
  · clear he
    go_enter Tryz.func70, Tryz.ntmps70
    go_wp2_with fail
    refine (l01Reduced_c (p * x + q * y) (r * x + s * y) _ (by omega) (by omega) (by omega) (by omega) HZ.out).mono ?_
    rintro e w1 ⟨rfl, b1⟩
    have zzb1 := b1.size; (try simp at zzb1); have zb1_0 : w.heap.size < w1.heap.size := (by omega); have kcb1_0 : ∀ o, w1.cell? ⟨w.heap.size, o, none⟩ = _ := fun o => b1.cell (p := ⟨w.heap.size, o, none⟩) (by go_size); have kfb1_0 : ∀ o, w1.frozen? ⟨w.heap.size, o, none⟩ = _ := fun o => b1.frozen (p := ⟨w.heap.size, o, none⟩) (by go_size); have zb1_1 : w.heap.size + 1 < w1.heap.size := (by omega); have kcb1_1 : ∀ o, w1.cell? ⟨w.heap.size + 1, o, none⟩ = _ := fun o => b1.cell (p := ⟨w.heap.size + 1, o, none⟩) (by go_size); have kfb1_1 : ∀ o, w1.frozen? ⟨w.heap.size + 1, o, none⟩ = _ := fun o => b1.frozen (p := ⟨w.heap.size + 1, o, none⟩) (by go_size); have zb1_2 : w.heap.size + 2 < w1.heap.size := (by omega); have kcb1_2 : ∀ o, w1.cell? ⟨w.heap.size + 2, o, none⟩ = _ := fun o => b1.cell (p := ⟨w.heap.size + 2, o, none⟩) (by go_size); have kfb1_2 : ∀ o, w1.frozen? ⟨w.heap.size + 2, o, none⟩ = _ := fun o => b1.frozen (p := ⟨w.heap.size + 2, o, none⟩) (by go_size); clear zzb1
    rw [HX.out, HY.out]
    go_wp2_with fail
    refine (l01Entry_c _ _).mono ?_
    rintro e w3 ⟨rfl, rfl⟩
    go_wp2
    exact bodyPost_ret (v := .tuple #[.agg #[.int .i64 0, .int .i64 0], .bool false]) (by simp only [results, Tryz.results70]; go_simp) rfl ⟨rfl, (by repeat' (first | (with_reducible exact Below.refl _ _) | (with_reducible assumption) | (with_reducible refine below_drewN ?_ _) | (with_reducible refine Below.drew ?_) | (with_reducible refine Below.alloc ?_ ?_ _) | (with_reducible refine Below.setCell ?_ ?_ _) | (with_reducible refine Below.trans ?_ (Below.mono (by with_reducible assumption) ?_)) | go_size | (dsimp only; omega)))⟩
  · have e2 : ent Y = false := by simpa [e1] using he
    clear he
    go_enter Tryz.func70, Tryz.ntmps70
    go_wp2_with fail
    refine (l01Reduced_c (p * x + q * y) (r * x + s * y) _ (by omega) (by omega) (by omega) (by omega) HZ.out).mono ?_
    rintro e w1 ⟨rfl, b1⟩
    have zzb1 := b1.size; (try simp at zzb1); have zb1_0 : w.heap.size < w1.heap.size := (by omega); have kcb1_0 : ∀ o, w1.cell? ⟨w.heap.size, o, none⟩ = _ := fun o => b1.cell (p := ⟨w.heap.size, o, none⟩) (by go_size); have kfb1_0 : ∀ o, w1.frozen? ⟨w.heap.size, o, none⟩ = _ := fun o => b1.frozen (p := ⟨w.heap.size, o, none⟩) (by go_size); have zb1_1 : w.heap.size + 1 < w1.heap.size := (by omega); have kcb1_1 : ∀ o, w1.cell? ⟨w.heap.size + 1, o, none⟩ = _ := fun o => b1.cell (p := ⟨w.heap.size + 1, o, none⟩) (by go_size); have kfb1_1 : ∀ o, w1.frozen? ⟨w.heap.size + 1, o, none⟩ = _ := fun o => b1.frozen (p := ⟨w.heap.size + 1, o, none⟩) (by go_size); have zb1_2 : w.heap.size + 2 < w1.heap.size := (by omega); have kcb1_2 : ∀ o, w1.cell? ⟨w.heap.size + 2, o, none⟩ = _ := fun o => b1.cell (p := ⟨w.heap.size + 2, o, none⟩) (by go_size); have kfb1_2 : ∀ o, w1.frozen? ⟨w.heap.size + 2, o, none⟩ = _ := fun o => b1.frozen (p := ⟨w.heap.size + 2, o, none⟩) (by go_size); clear zzb1
    rw [HX.out, HY.out]
    go_wp2_with fail
    refine (l01Entry_c _ _).mono ?_
    rintro e w3 ⟨rfl, rfl⟩
    go_wp2_with fail
    refine (l01Entry_c _ _).mono ?_
    rintro e w4 ⟨rfl, rfl⟩
    go_wp2
    exact bodyPost_ret (v := .tuple #[.agg #[.int .i64 0, .int .i64 0], .bool false]) (by simp only [results, Tryz.results70]; go_simp) rfl ⟨rfl, (by repeat' (first | (with_reducible exact Below.refl _ _) | (with_reducible assumption) | (with_reducible refine below_drewN ?_ _) | (with_reducible refine Below.drew ?_) | (with_reducible refine Below.alloc ?_ ?_ _) | (with_reducible refine Below.setCell ?_ ?_ _) | (with_reducible refine Below.trans ?_ (Below.mono (by with_reducible assumption) ?_)) | go_size | (dsimp only; omega)))⟩
theorem l01Lead_yes (p q r s x y : Int) (w : World) (m1 : isM p q r s = true) (m2 : isF x y = true) (he : (ent (redP (p * x + q * y) (r * x + s * y)) && ent (redQ (p * x + q * y) (r * x + s * y))) = true) :
    Calls Tryz.prog 70 #[.agg #[.int .i64 p, .int .i64 q, .int .i64 r, .int .i64 s], .agg #[.int .i64 x, .int .i64 y]] w fun e w' => e = .returned (.tuple #[.agg #[.int .i64 (redP (p * x + q * y) (r * x + s * y)), .int .i64 (redQ (p * x + q * y) (r * x + s * y))], .bool true]) ∧ Below w.heap.size w w' := by
  have HZ := Lib.hid (lead_nz m1 m2)
  obtain ⟨⟨⟨a0, a1⟩, b0, b1⟩, ⟨c0, c1⟩, d0, d1⟩ := lead_bd m1 m2
  rw [Bool.and_eq_true] at he
  obtain ⟨e1, e2⟩ := he
  generalize hX : redP (p * x + q * y) (r * x + s * y) = X at e1 ⊢
  generalize hY : redQ (p * x + q * y) (r * x + s * y) = Y at e2 ⊢
  have HX := Lib.hid hX
  have HY := Lib.hid hY
  clear hX hY
  go_enter Tryz.func70, Tryz.ntmps70
  go_wp2_with fail
  refine (l01Reduced_c (p * x + q * y) (r * x + s * y) _ (by omega) (by omega) (by omega) (by omega) HZ.out).mono ?_
  rintro e w1 ⟨rfl, b1⟩
  have zzb1 := b1.size; (try simp at zzb1); have zb1_0 : w.heap.size < w1.heap.size := (by omega); have kcb1_0 : ∀ o, w1.cell? ⟨w.heap.size, o, none⟩ = _ := fun o => b1.cell (p := ⟨w.heap.size, o, none⟩) (by go_size); have kfb1_0 : ∀ o, w1.frozen? ⟨w.heap.size, o, none⟩ = _ := fun o => b1.frozen (p := ⟨w.heap.size, o, none⟩) (by go_size); have zb1_1 : w.heap.size + 1 < w1.heap.size := (by omega); have kcb1_1 : ∀ o, w1.cell? ⟨w.heap.size + 1, o, none⟩ = _ := fun o => b1.cell (p := ⟨w.heap.size + 1, o, none⟩) (by go_size); have kfb1_1 : ∀ o, w1.frozen? ⟨w.heap.size + 1, o, none⟩ = _ := fun o => b1.frozen (p := ⟨w.heap.size + 1, o, none⟩) (by go_size); have zb1_2 : w.heap.size + 2 < w1.heap.size := (by omega); have kcb1_2 : ∀ o, w1.cell? ⟨w.heap.size + 2, o, none⟩ = _ := fun o => b1.cell (p := ⟨w.heap.size + 2, o, none⟩) (by go_size); have kfb1_2 : ∀ o, w1.frozen? ⟨w.heap.size + 2, o, none⟩ = _ := fun o => b1.frozen (p := ⟨w.heap.size + 2, o, none⟩) (by go_size); clear zzb1
  rw [HX.out, HY.out]
  go_wp2_with fail
  refine (l01Entry_c _ _).mono ?_
  rintro e w3 ⟨rfl, rfl⟩
  go_wp2_with fail
  refine (l01Entry_c _ _).mono ?_
  rintro e w4 ⟨rfl, rfl⟩
  go_wp2
  exact bodyPost_ret (v := .tuple #[.agg #[.int .i64 X, .int .i64 Y], .bool true]) (by simp only [results, Tryz.results70]; go_simp) rfl ⟨rfl, (by repeat' (first | (with_reducible exact Below.refl _ _) | (with_reducible assumption) | (with_reducible refine below_drewN ?_ _) | (with_reducible refine Below.drew ?_) | (with_reducible refine Below.alloc ?_ ?_ _) | (with_reducible refine Below.setCell ?_ ?_ _) | (with_reducible refine Below.trans ?_ (Below.mono (by with_reducible assumption) ?_)) | go_size | (dsimp only; omega)))⟩
theorem sLeadFraction_no (p q r s x y : Int) (w : World) (h : (isM p q r s && isF x y) = false) :
    Calls Tryz.prog 8 #[.agg #[.int .i64 p, .int .i64 q, .int .i64 r, .int .i64 s], .agg #[.int .i64 x, .int .i64 y]] w fun e w' => e = .returned (.tuple #[.agg #[.int .i64 0, .int .i64 0], .int .i64 1]) ∧ Below w.heap.size w w' := by
  cases m1 : isM p q r s
  · clear h
    go_enter Tryz.func8, Tryz.ntmps8
    go_wp2_with fail
    refine (l01Is_c _ _ _ _ _).mono ?_
    rintro e w1 ⟨rfl, b1⟩
    have zzb1 := b1.size; (try simp at zzb1); have zb1_0 : w.heap.size < w1.heap.size := (by omega); have kcb1_0 : ∀ o, w1.cell? ⟨w.heap.size, o, none⟩ = _ := fun o => b1.cell (p := ⟨w.heap.size, o, none⟩) (by go_size); have kfb1_0 : ∀ o, w1.frozen? ⟨w.heap.size, o, none⟩ = _ := fun o => b1.frozen (p := ⟨w.heap.size, o, none⟩) (by go_size); have zb1_1 : w.heap.size + 1 < w1.heap.size := (by omega); have kcb1_1 : ∀ o, w1.cell? ⟨w.heap.size + 1, o, none⟩ = _ := fun o => b1.cell (p := ⟨w.heap.size + 1, o, none⟩) (by go_size); have kfb1_1 : ∀ o, w1.frozen? ⟨w.heap.size + 1, o, none⟩ = _ := fun o => b1.frozen (p := ⟨w.heap.size + 1, o, none⟩) (by go_size); have zb1_2 : w.heap.size + 2 < w1.heap.size := (by omega); have kcb1_2 : ∀ o, w1.cell? ⟨w.heap.size + 2, o, none⟩ = _ := fun o => b1.cell (p := ⟨w.heap.size + 2, o, none⟩) (by go_size); have kfb1_2 : ∀ o, w1.frozen? ⟨w.heap.size + 2, o, none⟩ = _ := fun o => b1.frozen (p := ⟨w.heap.size + 2, o, none⟩) (by go_size); clear zzb1
    go_wp2
    exact bodyPost_ret (v := .tuple #[.agg #[.int .i64 0, .int .i64 0], .int .i64 1]) (by simp only [results, Tryz.results8]; go_simp) rfl ⟨rfl, (by repeat' (first | (with_reducible exact Below.refl _ _) | (with_reducible assumption) | (with_reducible refine below_drewN ?_ _) | (with_reducible refine Below.drew ?_) | (with_reducible refine Below.alloc ?_ ?_ _) | (with_reducible refine Below.setCell ?_ ?_ _) | (with_reducible refine Below.trans ?_ (Below.mono (by with_reducible assumption) ?_)) | go_size | (dsimp only; omega)))⟩
  · have m2 : isF x y = false := by simpa [m1] using h
    clear h
    go_enter Tryz.func8, Tryz.ntmps8
    go_wp2_with fail
    refine (l01Is_c _ _ _ _ _).mono ?_
    rintro e w1 ⟨rfl, b1⟩
    have zzb1 := b1.size; (try simp at zzb1); have zb1_0 : w.heap.size < w1.heap.size := (by omega); have kcb1_0 : ∀ o, w1.cell? ⟨w.heap.size, o, none⟩ = _ := fun o => b1.cell (p := ⟨w.heap.size, o, none⟩) (by go_size); have kfb1_0 : ∀ o, w1.frozen? ⟨w.heap.size, o, none⟩ = _ := fun o => b1.frozen (p := ⟨w.heap.size, o, none⟩) (by go_size); have zb1_1 : w.heap.size + 1 < w1.heap.size := (by omega); have kcb1_1 : ∀ o, w1.cell? ⟨w.heap.size + 1, o, none⟩ = _ := fun o => b1.cell (p := ⟨w.heap.size + 1, o, none⟩) (by go_size); have kfb1_1 : ∀ o, w1.frozen? ⟨w.heap.size + 1, o, none⟩ = _ := fun o => b1.frozen (p := ⟨w.heap.size + 1, o, none⟩) (by go_size); have zb1_2 : w.heap.size + 2 < w1.heap.size := (by omega); have kcb1_2 : ∀ o, w1.cell? ⟨w.heap.size + 2, o, none⟩ = _ := fun o => b1.cell (p := ⟨w.heap.size + 2, o, none⟩) (by go_size); have kfb1_2 : ∀ o, w1.frozen? ⟨w.heap.size + 2, o, none⟩ = _ := fun o => b1.frozen (p := ⟨w.heap.size + 2, o, none⟩) (by go_size); clear zzb1
    go_wp2_with fail
    refine (l01Fraction_c _ _ _).mono ?_
    rintro e w2 ⟨rfl, b2⟩
    have zzb2 := b2.size; (try simp at zzb2); have zb2_0 : w.heap.size < w2.heap.size := (by omega); have kcb2_0 : ∀ o, w2.cell? ⟨w.heap.size, o, none⟩ = _ := fun o => b2.cell (p := ⟨w.heap.size, o, none⟩) (by go_size); have kfb2_0 : ∀ o, w2.frozen? ⟨w.heap.size, o, none⟩ = _ := fun o => b2.frozen (p := ⟨w.heap.size, o, none⟩) (by go_size); have zb2_1 : w.heap.size + 1 < w2.heap.size := (by omega); have kcb2_1 : ∀ o, w2.cell? ⟨w.heap.size + 1, o, none⟩ = _ := fun o => b2.cell (p := ⟨w.heap.size + 1, o, none⟩) (by go_size); have kfb2_1 : ∀ o, w2.frozen? ⟨w.heap.size + 1, o, none⟩ = _ := fun o => b2.frozen (p := ⟨w.heap.size + 1, o, none⟩) (by go_size); have zb2_2 : w.heap.size + 2 < w2.heap.size := (by omega); have kcb2_2 : ∀ o, w2.cell? ⟨w.heap.size + 2, o, none⟩ = _ := fun o => b2.cell (p := ⟨w.heap.size + 2, o, none⟩) (by go_size); have kfb2_2 : ∀ o, w2.frozen? ⟨w.heap.size + 2, o, none⟩ = _ := fun o => b2.frozen (p := ⟨w.heap.size + 2, o, none⟩) (by go_size); clear zzb2
    go_wp2
    exact bodyPost_ret (v := .tuple #[.agg #[.int .i64 0, .int .i64 0], .int .i64 1]) (by simp only [results, Tryz.results8]; go_simp) rfl ⟨rfl, (by repeat' (first | (with_reducible exact Below.refl _ _) | (with_reducible assumption) | (with_reducible refine below_drewN ?_ _) | (with_reducible refine Below.drew ?_) | (with_reducible refine Below.alloc ?_ ?_ _) | (with_reducible refine Below.setCell ?_ ?_ _) | (with_reducible refine Below.trans ?_ (Below.mono (by with_reducible assumption) ?_)) | go_size | (dsimp only; omega)))⟩
theorem sLeadFraction_limit (p q r s x y : Int) (w : World) (m1 : isM p q r s = true) (m2 : isF x y = true) (he : (ent (redP (p * x + q * y) (r * x + s * y)) && ent (redQ (p * x + q * y) (r * x + s * y))) = false) :
    Calls Tryz.prog 8 #[.agg #[.int .i64 p, .int .i64 q, .int .i64 r, .int .i64 s], .agg #[.int .i64 x, .int .i64 y]] w fun e w' => e = .returned (.tuple #[.agg #[.int .i64 0, .int .i64 0], .int .i64 3]) ∧ Below w.heap.size w w' := by
  have HE := Lib.hid he
  have M1 := Lib.hid m1
  have M2 := Lib.hid m2
  clear he
  go_enter Tryz.func8, Tryz.ntmps8
  go_wp2_with fail
  refine (l01Is_c _ _ _ _ _).mono ?_
  rintro e w1 ⟨rfl, b1⟩
  have zzb1 := b1.size; (try simp at zzb1); have zb1_0 : w.heap.size < w1.heap.size := (by omega); have kcb1_0 : ∀ o, w1.cell? ⟨w.heap.size, o, none⟩ = _ := fun o => b1.cell (p := ⟨w.heap.size, o, none⟩) (by go_size); have kfb1_0 : ∀ o, w1.frozen? ⟨w.heap.size, o, none⟩ = _ := fun o => b1.frozen (p := ⟨w.heap.size, o, none⟩) (by go_size); have zb1_1 : w.heap.size + 1 < w1.heap.size := (by omega); have kcb1_1 : ∀ o, w1.cell? ⟨w.heap.size + 1, o, none⟩ = _ := fun o => b1.cell (p := ⟨w.heap.size + 1, o, none⟩) (by go_size); have kfb1_1 : ∀ o, w1.frozen? ⟨w.heap.size + 1, o, none⟩ = _ := fun o => b1.frozen (p := ⟨w.heap.size + 1, o, none⟩) (by go_size); have zb1_2 : w.heap.size + 2 < w1.heap.size := (by omega); have kcb1_2 : ∀ o, w1.cell? ⟨w.heap.size + 2, o, none⟩ = _ := fun o => b1.cell (p := ⟨w.heap.size + 2, o, none⟩) (by go_size); have kfb1_2 : ∀ o, w1.frozen? ⟨w.heap.size + 2, o, none⟩ = _ := fun o => b1.frozen (p := ⟨w.heap.size + 2, o, none⟩) (by go_size); clear zzb1
  go_wp2_with fail
  refine (l01Fraction_c _ _ _).mono ?_
  rintro e w2 ⟨rfl, b2⟩
  have zzb2 := b2.size; (try simp at zzb2); have zb2_0 : w.heap.size < w2.heap.size := (by omega); have kcb2_0 : ∀ o, w2.cell? ⟨w.heap.size, o, none⟩ = _ := fun o => b2.cell (p := ⟨w.heap.size, o, none⟩) (by go_size); have kfb2_0 : ∀ o, w2.frozen? ⟨w.heap.size, o, none⟩ = _ := fun o => b2.frozen (p := ⟨w.heap.size, o, none⟩) (by go_size); have zb2_1 : w.heap.size + 1 < w2.heap.size := (by omega); have kcb2_1 : ∀ o, w2.cell? ⟨w.heap.size + 1, o, none⟩ = _ := fun o => b2.cell (p := ⟨w.heap.size + 1, o, none⟩) (by go_size); have kfb2_1 : ∀ o, w2.frozen? ⟨w.heap.size + 1, o, none⟩ = _ := fun o => b2.frozen (p := ⟨w.heap.size + 1, o, none⟩) (by go_size); have zb2_2 : w.heap.size + 2 < w2.heap.size := (by omega); have kcb2_2 : ∀ o, w2.cell? ⟨w.heap.size + 2, o, none⟩ = _ := fun o => b2.cell (p := ⟨w.heap.size + 2, o, none⟩) (by go_size); have kfb2_2 : ∀ o, w2.frozen? ⟨w.heap.size + 2, o, none⟩ = _ := fun o => b2.frozen (p := ⟨w.heap.size + 2, o, none⟩) (by go_size); clear zzb2
  go_wp2_with fail
  refine (l01Lead_no p q r s x y _ M1.out M2.out HE.out).mono ?_
  rintro e w3 ⟨rfl, b3⟩
  have zzb3 := b3.size; (try simp at zzb3); have zb3_0 : w.heap.size < w3.heap.size := (by omega); have kcb3_0 : ∀ o, w3.cell? ⟨w.heap.size, o, none⟩ = _ := fun o => b3.cell (p := ⟨w.heap.size, o, none⟩) (by go_size); have kfb3_0 : ∀ o, w3.frozen? ⟨w.heap.size, o, none⟩ = _ := fun o => b3.frozen (p := ⟨w.heap.size, o, none⟩) (by go_size); have zb3_1 : w.heap.size + 1 < w3.heap.size := (by omega); have kcb3_1 : ∀ o, w3.cell? ⟨w.heap.size + 1, o, none⟩ = _ := fun o => b3.cell (p := ⟨w.heap.size + 1, o, none⟩) (by go_size); have kfb3_1 : ∀ o, w3.frozen? ⟨w.heap.size + 1, o, none⟩ = _ := fun o => b3.frozen (p := ⟨w.heap.size + 1, o, none⟩) (by go_size); have zb3_2 : w.heap.size + 2 < w3.heap.size := (by omega); have kcb3_2 : ∀ o, w3.cell? ⟨w.heap.size + 2, o, none⟩ = _ := fun o => b3.cell (p := ⟨w.heap.size + 2, o, none⟩) (by go_size); have kfb3_2 : ∀ o, w3.frozen? ⟨w.heap.size + 2, o, none⟩ = _ := fun o => b3.frozen (p := ⟨w.heap.size + 2, o, none⟩) (by go_size); clear zzb3
  go_wp2
  exact bodyPost_ret (v := .tuple #[.agg #[.int .i64 0, .int .i64 0], .int .i64 3]) (by simp only [results, Tryz.results8]; go_simp) rfl ⟨rfl, (by repeat' (first | (with_reducible exact Below.refl _ _) | (with_reducible assumption) | (with_reducible refine below_drewN ?_ _) | (with_reducible refine Below.drew ?_) | (with_reducible refine Below.alloc ?_ ?_ _) | (with_reducible refine Below.setCell ?_ ?_ _) | (with_reducible refine Below.trans ?_ (Below.mono (by with_reducible assumption) ?_)) | go_size | (dsimp only; omega)))⟩
theorem sLeadFraction_yes (p q r s x y : Int) (w : World) (m1 : isM p q r s = true) (m2 : isF x y = true) (he : (ent (redP (p * x + q * y) (r * x + s * y)) && ent (redQ (p * x + q * y) (r * x + s * y))) = true) :
    Calls Tryz.prog 8 #[.agg #[.int .i64 p, .int .i64 q, .int .i64 r, .int .i64 s], .agg #[.int .i64 x, .int .i64 y]] w fun e w' => e = .returned (.tuple #[.agg #[.int .i64 (redP (p * x + q * y) (r * x + s * y)), .int .i64 (redQ (p * x + q * y) (r * x + s * y))], .int .i64 0]) ∧ Below w.heap.size w w' := by
  have HE := Lib.hid he
  have M1 := Lib.hid m1
  have M2 := Lib.hid m2
  clear he
  go_enter Tryz.func8, Tryz.ntmps8
  go_wp2_with fail
  refine (l01Is_c _ _ _ _ _).mono ?_
  rintro e w1 ⟨rfl, b1⟩
  have zzb1 := b1.size; (try simp at zzb1); have zb1_0 : w.heap.size < w1.heap.size := (by omega); have kcb1_0 : ∀ o, w1.cell? ⟨w.heap.size, o, none⟩ = _ := fun o => b1.cell (p := ⟨w.heap.size, o, none⟩) (by go_size); have kfb1_0 : ∀ o, w1.frozen? ⟨w.heap.size, o, none⟩ = _ := fun o => b1.frozen (p := ⟨w.heap.size, o, none⟩) (by go_size); have zb1_1 : w.heap.size + 1 < w1.heap.size := (by omega); have kcb1_1 : ∀ o, w1.cell? ⟨w.heap.size + 1, o, none⟩ = _ := fun o => b1.cell (p := ⟨w.heap.size + 1, o, none⟩) (by go_size); have kfb1_1 : ∀ o, w1.frozen? ⟨w.heap.size + 1, o, none⟩ = _ := fun o => b1.frozen (p := ⟨w.heap.size + 1, o, none⟩) (by go_size); have zb1_2 : w.heap.size + 2 < w1.heap.size := (by omega); have kcb1_2 : ∀ o, w1.cell? ⟨w.heap.size + 2, o, none⟩ = _ := fun o => b1.cell (p := ⟨w.heap.size + 2, o, none⟩) (by go_size); have kfb1_2 : ∀ o, w1.frozen? ⟨w.heap.size + 2, o, none⟩ = _ := fun o => b1.frozen (p := ⟨w.heap.size + 2, o, none⟩) (by go_size); clear zzb1
  go_wp2_with fail
  refine (l01Fraction_c _ _ _).mono ?_
  rintro e w2 ⟨rfl, b2⟩
  have zzb2 := b2.size; (try simp at zzb2); have zb2_0 : w.heap.size < w2.heap.size := (by omega); have kcb2_0 : ∀ o, w2.cell? ⟨w.heap.size, o, none⟩ = _ := fun o => b2.cell (p := ⟨w.heap.size, o, none⟩) (by go_size); have kfb2_0 : ∀ o, w2.frozen? ⟨w.heap.size, o, none⟩ = _ := fun o => b2.frozen (p := ⟨w.heap.size, o, none⟩) (by go_size); have zb2_1 : w.heap.size + 1 < w2.heap.size := (by omega); have kcb2_1 : ∀ o, w2.cell? ⟨w.heap.size + 1, o, none⟩ = _ := fun o => b2.cell (p := ⟨w.heap.size + 1, o, none⟩) (by go_size); have kfb2_1 : ∀ o, w2.frozen? ⟨w.heap.size + 1, o, none⟩ = _ := fun o => b2.frozen (p := ⟨w.heap.size + 1, o, none⟩) (by go_size); have zb2_2 : w.heap.size + 2 < w2.heap.size := (by omega); have kcb2_2 : ∀ o, w2.cell? ⟨w.heap.size + 2, o, none⟩ = _ := fun o => b2.cell (p := ⟨w.heap.size + 2, o, none⟩) (by go_size); have kfb2_2 : ∀ o, w2.frozen? ⟨w.heap.size + 2, o, none⟩ = _ := fun o => b2.frozen (p := ⟨w.heap.size + 2, o, none⟩) (by go_size); clear zzb2
  go_wp2_with fail
  refine (l01Lead_yes p q r s x y _ M1.out M2.out HE.out).mono ?_
  rintro e w3 ⟨rfl, b3⟩
  have zzb3 := b3.size; (try simp at zzb3); have zb3_0 : w.heap.size < w3.heap.size := (by omega); have kcb3_0 : ∀ o, w3.cell? ⟨w.heap.size, o, none⟩ = _ := fun o => b3.cell (p := ⟨w.heap.size, o, none⟩) (by go_size); have kfb3_0 : ∀ o, w3.frozen? ⟨w.heap.size, o, none⟩ = _ := fun o => b3.frozen (p := ⟨w.heap.size, o, none⟩) (by go_size); have zb3_1 : w.heap.size + 1 < w3.heap.size := (by omega); have kcb3_1 : ∀ o, w3.cell? ⟨w.heap.size + 1, o, none⟩ = _ := fun o => b3.cell (p := ⟨w.heap.size + 1, o, none⟩) (by go_size); have kfb3_1 : ∀ o, w3.frozen? ⟨w.heap.size + 1, o, none⟩ = _ := fun o => b3.frozen (p := ⟨w.heap.size + 1, o, none⟩) (by go_size); have zb3_2 : w.heap.size + 2 < w3.heap.size := (by omega); have kcb3_2 : ∀ o, w3.cell? ⟨w.heap.size + 2, o, none⟩ = _ := fun o => b3.cell (p := ⟨w.heap.size + 2, o, none⟩) (by go_size); have kfb3_2 : ∀ o, w3.frozen? ⟨w.heap.size + 2, o, none⟩ = _ := fun o => b3.frozen (p := ⟨w.heap.size + 2, o, none⟩) (by go_size); clear zzb3
  go_wp2
  exact bodyPost_ret (v := .tuple #[.agg #[.int .i64 (redP (p * x + q * y) (r * x + s * y)), .int .i64 (redQ (p * x + q * y) (r * x + s * y))], .int .i64 0]) (by simp only [results, Tryz.results8]; go_simp) rfl ⟨rfl, (by repeat' (first | (with_reducible exact Below.refl _ _) | (with_reducible assumption) | (with_reducible refine below_drewN ?_ _) | (with_reducible refine Below.drew ?_) | (with_reducible refine Below.alloc ?_ ?_ _) | (with_reducible refine Below.setCell ?_ ?_ _) | (with_reducible refine Below.trans ?_ (Below.mono (by with_reducible assumption) ?_)) | go_size | (dsimp only; omega)))⟩

end Go.Proofs.YtlkhhpckgcdeeaaGreatDoor
