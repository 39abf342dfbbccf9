/- The only fraction that a matrix keeps. -/
import Derived.Test.YtiilkonoaomchaaH
import Derived.Test.YtiilkonoaomchaaC
import Derived.Test.YtiilkonoaomchaaW
import Derived.Deep.DeepCutAuto
namespace Go.Proofs.Ytiilkonoaomchaa
open Go.RowKit
set_option linter.unusedVariables false
set_option linter.unusedSimpArgs false
attribute [local go_sem] run_min_int4 run_max_int4
attribute [local go_sem] run_equalIn_M
attribute [local go_sem] run_equalIn_Q
/-- a reduced pair comes back from its multiples -/
theorem red_mul {a b k : Int} (hg : Int.gcd a b = 1) (hs : 0 < b ∨ (b = 0 ∧ a = 1)) (hk : k ≠ 0) : redP (k * a) (k * b) = a ∧ redQ (k * a) (k * b) = b := by
  have e : (Int.gcd (k * a) (k * b) : Int) = k.natAbs := by rw [Int.gcd_mul_left, hg, Nat.mul_one]
  unfold redP redQ
  rw [e]
  rcases Int.lt_or_gt_of_ne hk with h | h
  · have h1 : (k.natAbs : Int) = -k := by omega
    have c : k * b < 0 ∨ k * b = 0 ∧ k * a < 0 := by
      rcases hs with hs | ⟨rfl, rfl⟩
      · left; exact Int.mul_neg_of_neg_of_pos h hs
      · right; omega
    rw [if_pos c, if_pos c, h1, Int.ediv_neg, Int.ediv_neg, Int.mul_ediv_cancel_left _ hk, Int.mul_ediv_cancel_left _ hk]
    omega
  · have h1 : (k.natAbs : Int) = k := by omega
    have c : ¬ (k * b < 0 ∨ k * b = 0 ∧ k * a < 0) := by
      rcases hs with hs | ⟨rfl, rfl⟩
      · have := Int.mul_pos h hs; omega
      · omega
    rw [if_neg c, if_neg c, h1, Int.mul_ediv_cancel_left _ hk, Int.mul_ediv_cancel_left _ hk]
    exact ⟨rfl, rfl⟩
theorem red_of {p q : Int} (hz : ¬ (p = 0 ∧ q = 0)) : ∃ a b k : Int, Int.gcd a b = 1 ∧ (0 < b ∨ (b = 0 ∧ a = 1)) ∧ k ≠ 0 ∧ p = k * a ∧ q = k * b := by
  have hg : 0 < Int.gcd p q := by
    rw [Nat.pos_iff_ne_zero, Ne, Int.gcd_eq_zero_iff]; exact hz
  obtain ⟨a, ha⟩ := Int.gcd_dvd_left (a := p) (b := q)
  obtain ⟨b, hb⟩ := Int.gcd_dvd_right (a := p) (b := q)
  have h1 : Int.gcd a b = 1 := by
    have h2 : Int.gcd ((Int.gcd p q : Int) * a) ((Int.gcd p q : Int) * b) = Int.gcd p q := by rw [← ha, ← hb]
    rw [Int.gcd_mul_left, Int.natAbs_natCast] at h2
    exact Nat.eq_of_mul_eq_mul_left hg (by rw [h2, Nat.mul_one])
  generalize hG : (Int.gcd p q : Int) = g at *
  have g0 : 0 < g := by omega
  rcases Int.lt_trichotomy b 0 with h | h | h
  · exact ⟨-a, -b, -g, by rw [Int.gcd_neg, Int.neg_gcd]; exact h1, .inl (by omega), by omega, by rw [Int.neg_mul_neg]; exact ha, by rw [Int.neg_mul_neg]; exact hb⟩
  · subst h
    rw [Int.gcd_zero_right] at h1
    rcases (show a = 1 ∨ a = -1 by omega) with rfl | rfl
    · exact ⟨1, 0, g, by decide, .inr ⟨rfl, rfl⟩, by omega, ha, hb⟩
    · exact ⟨1, 0, -g, by decide, .inr ⟨rfl, rfl⟩, by omega, by omega, by omega⟩
  · exact ⟨a, b, g, h1, .inl h, by omega, ha, hb⟩
theorem red_eq {p q p' q' : Int} (h : p * q' = p' * q) (hz : ¬ (p = 0 ∧ q = 0)) (hz' : ¬ (p' = 0 ∧ q' = 0)) : redP p q = redP p' q' ∧ redQ p q = redQ p' q' := by
  obtain ⟨a, b, k, h1, h2, h3, rfl, rfl⟩ := red_of hz
  have h4 : a * q' = p' * b := by
    have : k * (a * q') = k * (p' * b) := by grind
    exact Int.eq_of_mul_eq_mul_left h3 this
  obtain ⟨k', e1, e2⟩ : ∃ k' : Int, p' = k' * a ∧ q' = k' * b := by
    by_cases ha : a = 0
    · subst ha
      rw [Int.gcd_zero_left] at h1
      have hb : b = 1 := by omega
      subst hb
      exact ⟨q', by omega, by omega⟩
    · have hd : a.natAbs ∣ p'.natAbs := by
        have h6 : a.natAbs ∣ p'.natAbs * b.natAbs := ⟨q'.natAbs, by rw [← Int.natAbs_mul, ← Int.natAbs_mul, h4]⟩
        exact Nat.Coprime.dvd_of_dvd_mul_right h1 h6
      obtain ⟨c, hc⟩ := Int.natAbs_dvd_natAbs.mp hd
      refine ⟨c, by rw [hc, Int.mul_comm], ?_⟩
      have : a * q' = a * (c * b) := by rw [h4, hc]; grind
      exact Int.eq_of_mul_eq_mul_left ha this
  subst e1 e2
  have h5 : k' ≠ 0 := by rintro rfl; apply hz'; simp
  rw [(red_mul h1 h2 h3).1, (red_mul h1 h2 h3).2, (red_mul h1 h2 h5).1, (red_mul h1 h2 h5).2]
  exact ⟨rfl, rfl⟩
theorem ediv_entK {p q : Int} (hp : ent p = true) (hq : ent q = true) : (ent (redP p q) && ent (redQ p q)) = true := by
  obtain ⟨p0, p1⟩ := ent_iff.mp hp
  obtain ⟨q0, q1⟩ := ent_iff.mp hq
  have a := tdiv_bd p (Int.gcd p q : Int) 1000000000 p0 p1
  have b := tdiv_bd q (Int.gcd p q : Int) 1000000000 q0 q1
  rw [tdiv_gl] at a
  rw [tdiv_gr] at b
  rw [Bool.and_eq_true]
  constructor
  · apply ent_iff.mpr; unfold redP; split <;> omega
  · apply ent_iff.mpr; unfold redQ; split <;> omega
theorem kept_cases {p q r s : Int} (h : isM p q r s = true) (hk : kindOf p q r s = 2) : ∃ e : Int, (p + s).tdiv 2 = e ∧ (e = 1 ∨ e = -1) ∧ s = 2 * e - p ∧ q * r = -((p - e) * (p - e)) ∧ ¬ (q = 0 ∧ r = 0) := by
  obtain ⟨-, -, -, -, hd⟩ := isM_iff.mp h
  have hz : ¬ (q = 0 ∧ r = 0) := by
    intro hz; unfold kindOf at hk; rw [if_pos hz] at hk; omega
  have ht : p + s = 2 ∨ p + s = -2 := by
    clear hd h
    unfold kindOf at hk
    rw [if_neg hz] at hk
    grind
  rcases ht with ht | ht
  · refine ⟨1, by rw [ht]; rfl, .inl rfl, by omega, ?_, hz⟩
    have : s = 2 - p := by omega
    subst this; grind
  · refine ⟨-1, by rw [ht]; rfl, .inr rfl, by omega, ?_, hz⟩
    have : s = -2 - p := by omega
    subst this; grind
theorem sq_zero {x : Int} (h : 0 = -(x * x)) : x = 0 := by
  have : x * x = 0 := by omega
  rcases Int.mul_eq_zero.mp this with h | h <;> exact h
theorem KeptFraction_no (p q r s : Int) (w : World) (h : isM p q r s = false) :
    Calls Try.prog 36 #[.agg #[.int .i64 p, .int .i64 q, .int .i64 r, .int .i64 s]] w fun e w' => e = .returned (.tuple #[.agg #[.int .i64 0, .int .i64 0], .int .i64 1]) ∧ Below w.heap.size w w' := by
  go_enter Try.func36, Try.ntmps36
  go_wp2_with fail
  refine (IsMatrix_c _ _ _ _ _).mono ?_
  rintro e w1 ⟨rfl, b1⟩
  have zzb1 := b1.size; (try simp at zzb1); have zb1_0 : w.heap.size < w1.heap.size := (by omega); have kcb1_0 : ∀ o, w1.cell? ⟨w.heap.size, o, none⟩ = _ := fun o => b1.cell (p := ⟨w.heap.size, o, none⟩) (by go_size); have kfb1_0 : ∀ o, w1.frozen? ⟨w.heap.size, o, none⟩ = _ := fun o => b1.frozen (p := ⟨w.heap.size, o, none⟩) (by go_size); have zb1_1 : w.heap.size + 1 < w1.heap.size := (by omega); have kcb1_1 : ∀ o, w1.cell? ⟨w.heap.size + 1, o, none⟩ = _ := fun o => b1.cell (p := ⟨w.heap.size + 1, o, none⟩) (by go_size); have kfb1_1 : ∀ o, w1.frozen? ⟨w.heap.size + 1, o, none⟩ = _ := fun o => b1.frozen (p := ⟨w.heap.size + 1, o, none⟩) (by go_size); clear zzb1
  go_wp2
  exact bodyPost_ret (v := .tuple #[.agg #[.int .i64 0, .int .i64 0], .int .i64 1]) (by simp only [results, Try.results36]; go_simp) rfl ⟨rfl, (by repeat' (first | (with_reducible exact Below.refl _ _) | (with_reducible assumption) | (with_reducible refine below_drewN ?_ _) | (with_reducible refine Below.drew ?_) | (with_reducible refine Below.alloc ?_ ?_ _) | (with_reducible refine Below.setCell ?_ ?_ _) | (with_reducible refine Below.trans ?_ (Below.mono (by with_reducible assumption) ?_)) | go_size | (dsimp only; omega)))⟩
theorem KeptFraction_state (p q r s : Int) (w : World) (h : isM p q r s = true) (hk : kindOf p q r s = 0) :
    Calls Try.prog 36 #[.agg #[.int .i64 p, .int .i64 q, .int .i64 r, .int .i64 s]] w fun e w' => e = .returned (.tuple #[.agg #[.int .i64 0, .int .i64 0], .int .i64 5]) ∧ Below w.heap.size w w' := by
  obtain ⟨⟨hp0, hp1⟩, ⟨hq0, hq1⟩, ⟨hr0, hr1⟩, ⟨hs0, hs1⟩, hd⟩ := isM_iff.mp h
  have HD := Lib.hid hd
  have HK := Lib.hid hk
  clear hd hk
  go_enter Try.func36, Try.ntmps36
  go_wp2_with fail
  refine (IsMatrix_c _ _ _ _ _).mono ?_
  rintro e w1 ⟨rfl, b1⟩
  have zzb1 := b1.size; (try simp at zzb1); have zb1_0 : w.heap.size < w1.heap.size := (by omega); have kcb1_0 : ∀ o, w1.cell? ⟨w.heap.size, o, none⟩ = _ := fun o => b1.cell (p := ⟨w.heap.size, o, none⟩) (by go_size); have kfb1_0 : ∀ o, w1.frozen? ⟨w.heap.size, o, none⟩ = _ := fun o => b1.frozen (p := ⟨w.heap.size, o, none⟩) (by go_size); have zb1_1 : w.heap.size + 1 < w1.heap.size := (by omega); have kcb1_1 : ∀ o, w1.cell? ⟨w.heap.size + 1, o, none⟩ = _ := fun o => b1.cell (p := ⟨w.heap.size + 1, o, none⟩) (by go_size); have kfb1_1 : ∀ o, w1.frozen? ⟨w.heap.size + 1, o, none⟩ = _ := fun o => b1.frozen (p := ⟨w.heap.size + 1, o, none⟩) (by go_size); clear zzb1
  go_wp2_with fail
  refine (kind_c _ _ _ _ _ (by omega) (by omega) (by omega) (by omega) (by omega) (by omega) (by omega) (by omega) HD.out).mono ?_
  rintro e w2 ⟨rfl, b2⟩
  have zzb2 := b2.size; (try simp at zzb2); have zb2_0 : w.heap.size < w2.heap.size := (by omega); have kcb2_0 : ∀ o, w2.cell? ⟨w.heap.size, o, none⟩ = _ := fun o => b2.cell (p := ⟨w.heap.size, o, none⟩) (by go_size); have kfb2_0 : ∀ o, w2.frozen? ⟨w.heap.size, o, none⟩ = _ := fun o => b2.frozen (p := ⟨w.heap.size, o, none⟩) (by go_size); have zb2_1 : w.heap.size + 1 < w2.heap.size := (by omega); have kcb2_1 : ∀ o, w2.cell? ⟨w.heap.size + 1, o, none⟩ = _ := fun o => b2.cell (p := ⟨w.heap.size + 1, o, none⟩) (by go_size); have kfb2_1 : ∀ o, w2.frozen? ⟨w.heap.size + 1, o, none⟩ = _ := fun o => b2.frozen (p := ⟨w.heap.size + 1, o, none⟩) (by go_size); clear zzb2
  rw [HK.out]
  go_wp2
  exact bodyPost_ret (v := .tuple #[.agg #[.int .i64 0, .int .i64 0], .int .i64 5]) (by simp only [results, Try.results36]; go_simp) rfl ⟨rfl, (by repeat' (first | (with_reducible exact Below.refl _ _) | (with_reducible assumption) | (with_reducible refine below_drewN ?_ _) | (with_reducible refine Below.drew ?_) | (with_reducible refine Below.alloc ?_ ?_ _) | (with_reducible refine Below.setCell ?_ ?_ _) | (with_reducible refine Below.trans ?_ (Below.mono (by with_reducible assumption) ?_)) | go_size | (dsimp only; omega)))⟩
theorem KeptFraction_far (p q r s : Int) (w : World) (h : isM p q r s = true) (k : Int) (hk : kindOf p q r s = k) (k0 : k ≠ 0) (k2 : k ≠ 2) :
    Calls Try.prog 36 #[.agg #[.int .i64 p, .int .i64 q, .int .i64 r, .int .i64 s]] w fun e w' => e = .returned (.tuple #[.agg #[.int .i64 0, .int .i64 0], .int .i64 4]) ∧ Below w.heap.size w w' := by
  obtain ⟨⟨hp0, hp1⟩, ⟨hq0, hq1⟩, ⟨hr0, hr1⟩, ⟨hs0, hs1⟩, hd⟩ := isM_iff.mp h
  have HD := Lib.hid hd
  have HK := Lib.hid hk
  have kk0 : (k == 0) = false := by simpa using k0
  have kk2 : (k == 2) = false := by simpa using k2
  clear hd hk k0 k2
  go_enter Try.func36, Try.ntmps36
  go_wp2_with fail
  refine (IsMatrix_c _ _ _ _ _).mono ?_
  rintro e w1 ⟨rfl, b1⟩
  have zzb1 := b1.size; (try simp at zzb1); have zb1_0 : w.heap.size < w1.heap.size := (by omega); have kcb1_0 : ∀ o, w1.cell? ⟨w.heap.size, o, none⟩ = _ := fun o => b1.cell (p := ⟨w.heap.size, o, none⟩) (by go_size); have kfb1_0 : ∀ o, w1.frozen? ⟨w.heap.size, o, none⟩ = _ := fun o => b1.frozen (p := ⟨w.heap.size, o, none⟩) (by go_size); have zb1_1 : w.heap.size + 1 < w1.heap.size := (by omega); have kcb1_1 : ∀ o, w1.cell? ⟨w.heap.size + 1, o, none⟩ = _ := fun o => b1.cell (p := ⟨w.heap.size + 1, o, none⟩) (by go_size); have kfb1_1 : ∀ o, w1.frozen? ⟨w.heap.size + 1, o, none⟩ = _ := fun o => b1.frozen (p := ⟨w.heap.size + 1, o, none⟩) (by go_size); clear zzb1
  go_wp2_with fail
  refine (kind_c _ _ _ _ _ (by omega) (by omega) (by omega) (by omega) (by omega) (by omega) (by omega) (by omega) HD.out).mono ?_
  rintro e w2 ⟨rfl, b2⟩
  have zzb2 := b2.size; (try simp at zzb2); have zb2_0 : w.heap.size < w2.heap.size := (by omega); have kcb2_0 : ∀ o, w2.cell? ⟨w.heap.size, o, none⟩ = _ := fun o => b2.cell (p := ⟨w.heap.size, o, none⟩) (by go_size); have kfb2_0 : ∀ o, w2.frozen? ⟨w.heap.size, o, none⟩ = _ := fun o => b2.frozen (p := ⟨w.heap.size, o, none⟩) (by go_size); have zb2_1 : w.heap.size + 1 < w2.heap.size := (by omega); have kcb2_1 : ∀ o, w2.cell? ⟨w.heap.size + 1, o, none⟩ = _ := fun o => b2.cell (p := ⟨w.heap.size + 1, o, none⟩) (by go_size); have kfb2_1 : ∀ o, w2.frozen? ⟨w.heap.size + 1, o, none⟩ = _ := fun o => b2.frozen (p := ⟨w.heap.size + 1, o, none⟩) (by go_size); clear zzb2
  rw [HK.out]
  go_wp2_with fail
  refine (kind_c _ _ _ _ _ (by omega) (by omega) (by omega) (by omega) (by omega) (by omega) (by omega) (by omega) HD.out).mono ?_
  rintro e w3 ⟨rfl, b3⟩
  have zzb3 := b3.size; (try simp at zzb3); have zb3_0 : w.heap.size < w3.heap.size := (by omega); have kcb3_0 : ∀ o, w3.cell? ⟨w.heap.size, o, none⟩ = _ := fun o => b3.cell (p := ⟨w.heap.size, o, none⟩) (by go_size); have kfb3_0 : ∀ o, w3.frozen? ⟨w.heap.size, o, none⟩ = _ := fun o => b3.frozen (p := ⟨w.heap.size, o, none⟩) (by go_size); have zb3_1 : w.heap.size + 1 < w3.heap.size := (by omega); have kcb3_1 : ∀ o, w3.cell? ⟨w.heap.size + 1, o, none⟩ = _ := fun o => b3.cell (p := ⟨w.heap.size + 1, o, none⟩) (by go_size); have kfb3_1 : ∀ o, w3.frozen? ⟨w.heap.size + 1, o, none⟩ = _ := fun o => b3.frozen (p := ⟨w.heap.size + 1, o, none⟩) (by go_size); clear zzb3
  rw [HK.out]
  go_wp2
  exact bodyPost_ret (v := .tuple #[.agg #[.int .i64 0, .int .i64 0], .int .i64 4]) (by simp only [results, Try.results36]; go_simp) rfl ⟨rfl, (by repeat' (first | (with_reducible exact Below.refl _ _) | (with_reducible assumption) | (with_reducible refine below_drewN ?_ _) | (with_reducible refine Below.drew ?_) | (with_reducible refine Below.alloc ?_ ?_ _) | (with_reducible refine Below.setCell ?_ ?_ _) | (with_reducible refine Below.trans ?_ (Below.mono (by with_reducible assumption) ?_)) | go_size | (dsimp only; omega)))⟩
theorem KeptFraction_inf (p q s : Int) (w : World) (h : isM p q 0 s = true) (hk : kindOf p q 0 s = 2) :
    Calls Try.prog 36 #[.agg #[.int .i64 p, .int .i64 q, .int .i64 0, .int .i64 s]] w fun e w' => e = .returned (.tuple #[.agg #[.int .i64 1, .int .i64 0], .int .i64 0]) ∧ Below w.heap.size w w' := by
  obtain ⟨⟨hp0, hp1⟩, ⟨hq0, hq1⟩, ⟨hr0, hr1⟩, ⟨hs0, hs1⟩, hd⟩ := isM_iff.mp h
  have HD := Lib.hid hd
  have HK := Lib.hid hk
  clear hd hk
  go_enter Try.func36, Try.ntmps36
  go_wp2_with fail
  refine (IsMatrix_c _ _ _ _ _).mono ?_
  rintro e w1 ⟨rfl, b1⟩
  have zzb1 := b1.size; (try simp at zzb1); have zb1_0 : w.heap.size < w1.heap.size := (by omega); have kcb1_0 : ∀ o, w1.cell? ⟨w.heap.size, o, none⟩ = _ := fun o => b1.cell (p := ⟨w.heap.size, o, none⟩) (by go_size); have kfb1_0 : ∀ o, w1.frozen? ⟨w.heap.size, o, none⟩ = _ := fun o => b1.frozen (p := ⟨w.heap.size, o, none⟩) (by go_size); have zb1_1 : w.heap.size + 1 < w1.heap.size := (by omega); have kcb1_1 : ∀ o, w1.cell? ⟨w.heap.size + 1, o, none⟩ = _ := fun o => b1.cell (p := ⟨w.heap.size + 1, o, none⟩) (by go_size); have kfb1_1 : ∀ o, w1.frozen? ⟨w.heap.size + 1, o, none⟩ = _ := fun o => b1.frozen (p := ⟨w.heap.size + 1, o, none⟩) (by go_size); clear zzb1
  go_wp2_with fail
  refine (kind_c _ _ _ _ _ (by omega) (by omega) (by omega) (by omega) (by omega) (by omega) (by omega) (by omega) HD.out).mono ?_
  rintro e w2 ⟨rfl, b2⟩
  have zzb2 := b2.size; (try simp at zzb2); have zb2_0 : w.heap.size < w2.heap.size := (by omega); have kcb2_0 : ∀ o, w2.cell? ⟨w.heap.size, o, none⟩ = _ := fun o => b2.cell (p := ⟨w.heap.size, o, none⟩) (by go_size); have kfb2_0 : ∀ o, w2.frozen? ⟨w.heap.size, o, none⟩ = _ := fun o => b2.frozen (p := ⟨w.heap.size, o, none⟩) (by go_size); have zb2_1 : w.heap.size + 1 < w2.heap.size := (by omega); have kcb2_1 : ∀ o, w2.cell? ⟨w.heap.size + 1, o, none⟩ = _ := fun o => b2.cell (p := ⟨w.heap.size + 1, o, none⟩) (by go_size); have kfb2_1 : ∀ o, w2.frozen? ⟨w.heap.size + 1, o, none⟩ = _ := fun o => b2.frozen (p := ⟨w.heap.size + 1, o, none⟩) (by go_size); clear zzb2
  rw [HK.out]
  go_wp2_with fail
  refine (kind_c _ _ _ _ _ (by omega) (by omega) (by omega) (by omega) (by omega) (by omega) (by omega) (by omega) HD.out).mono ?_
  rintro e w3 ⟨rfl, b3⟩
  have zzb3 := b3.size; (try simp at zzb3); have zb3_0 : w.heap.size < w3.heap.size := (by omega); have kcb3_0 : ∀ o, w3.cell? ⟨w.heap.size, o, none⟩ = _ := fun o => b3.cell (p := ⟨w.heap.size, o, none⟩) (by go_size); have kfb3_0 : ∀ o, w3.frozen? ⟨w.heap.size, o, none⟩ = _ := fun o => b3.frozen (p := ⟨w.heap.size, o, none⟩) (by go_size); have zb3_1 : w.heap.size + 1 < w3.heap.size := (by omega); have kcb3_1 : ∀ o, w3.cell? ⟨w.heap.size + 1, o, none⟩ = _ := fun o => b3.cell (p := ⟨w.heap.size + 1, o, none⟩) (by go_size); have kfb3_1 : ∀ o, w3.frozen? ⟨w.heap.size + 1, o, none⟩ = _ := fun o => b3.frozen (p := ⟨w.heap.size + 1, o, none⟩) (by go_size); clear zzb3
  rw [HK.out]
  go_wp2
  exact bodyPost_ret (v := .tuple #[.agg #[.int .i64 1, .int .i64 0], .int .i64 0]) (by simp only [results, Try.results36]; go_simp) rfl ⟨rfl, (by repeat' (first | (with_reducible exact Below.refl _ _) | (with_reducible assumption) | (with_reducible refine below_drewN ?_ _) | (with_reducible refine Below.drew ?_) | (with_reducible refine Below.alloc ?_ ?_ _) | (with_reducible refine Below.setCell ?_ ?_ _) | (with_reducible refine Below.trans ?_ (Below.mono (by with_reducible assumption) ?_)) | go_size | (dsimp only; omega)))⟩
theorem KeptFraction_yes (p q r s : Int) (w : World) (h : isM p q r s = true) (hk : kindOf p q r s = 2) (hr : r ≠ 0) (he : (ent (redP (p - s) (2 * r)) && ent (redQ (p - s) (2 * r))) = true) :
    Calls Try.prog 36 #[.agg #[.int .i64 p, .int .i64 q, .int .i64 r, .int .i64 s]] w fun e w' => e = .returned (.tuple #[.agg #[.int .i64 (redP (p - s) (2 * r)), .int .i64 (redQ (p - s) (2 * r))], .int .i64 0]) ∧ Below w.heap.size w w' := by
  obtain ⟨⟨hp0, hp1⟩, ⟨hq0, hq1⟩, ⟨hr0, hr1⟩, ⟨hs0, hs1⟩, hd⟩ := isM_iff.mp h
  have HD := Lib.hid hd
  have HK := Lib.hid hk
  have HE := Lib.hid he
  have HZ := Lib.hid (show ¬ (p - s = 0 ∧ 2 * r = 0) by omega)
  have rr : (r == 0) = false := by simpa using hr
  clear hd hk he hr
  go_enter Try.func36, Try.ntmps36
  go_wp2_with fail
  refine (IsMatrix_c _ _ _ _ _).mono ?_
  rintro e w1 ⟨rfl, b1⟩
  have zzb1 := b1.size; (try simp at zzb1); have zb1_0 : w.heap.size < w1.heap.size := (by omega); have kcb1_0 : ∀ o, w1.cell? ⟨w.heap.size, o, none⟩ = _ := fun o => b1.cell (p := ⟨w.heap.size, o, none⟩) (by go_size); have kfb1_0 : ∀ o, w1.frozen? ⟨w.heap.size, o, none⟩ = _ := fun o => b1.frozen (p := ⟨w.heap.size, o, none⟩) (by go_size); have zb1_1 : w.heap.size + 1 < w1.heap.size := (by omega); have kcb1_1 : ∀ o, w1.cell? ⟨w.heap.size + 1, o, none⟩ = _ := fun o => b1.cell (p := ⟨w.heap.size + 1, o, none⟩) (by go_size); have kfb1_1 : ∀ o, w1.frozen? ⟨w.heap.size + 1, o, none⟩ = _ := fun o => b1.frozen (p := ⟨w.heap.size + 1, o, none⟩) (by go_size); clear zzb1
  go_wp2_with fail
  refine (kind_c _ _ _ _ _ (by omega) (by omega) (by omega) (by omega) (by omega) (by omega) (by omega) (by omega) HD.out).mono ?_
  rintro e w2 ⟨rfl, b2⟩
  have zzb2 := b2.size; (try simp at zzb2); have zb2_0 : w.heap.size < w2.heap.size := (by omega); have kcb2_0 : ∀ o, w2.cell? ⟨w.heap.size, o, none⟩ = _ := fun o => b2.cell (p := ⟨w.heap.size, o, none⟩) (by go_size); have kfb2_0 : ∀ o, w2.frozen? ⟨w.heap.size, o, none⟩ = _ := fun o => b2.frozen (p := ⟨w.heap.size, o, none⟩) (by go_size); have zb2_1 : w.heap.size + 1 < w2.heap.size := (by omega); have kcb2_1 : ∀ o, w2.cell? ⟨w.heap.size + 1, o, none⟩ = _ := fun o => b2.cell (p := ⟨w.heap.size + 1, o, none⟩) (by go_size); have kfb2_1 : ∀ o, w2.frozen? ⟨w.heap.size + 1, o, none⟩ = _ := fun o => b2.frozen (p := ⟨w.heap.size + 1, o, none⟩) (by go_size); clear zzb2
  rw [HK.out]
  go_wp2_with fail
  refine (kind_c _ _ _ _ _ (by omega) (by omega) (by omega) (by omega) (by omega) (by omega) (by omega) (by omega) HD.out).mono ?_
  rintro e w3 ⟨rfl, b3⟩
  have zzb3 := b3.size; (try simp at zzb3); have zb3_0 : w.heap.size < w3.heap.size := (by omega); have kcb3_0 : ∀ o, w3.cell? ⟨w.heap.size, o, none⟩ = _ := fun o => b3.cell (p := ⟨w.heap.size, o, none⟩) (by go_size); have kfb3_0 : ∀ o, w3.frozen? ⟨w.heap.size, o, none⟩ = _ := fun o => b3.frozen (p := ⟨w.heap.size, o, none⟩) (by go_size); have zb3_1 : w.heap.size + 1 < w3.heap.size := (by omega); have kcb3_1 : ∀ o, w3.cell? ⟨w.heap.size + 1, o, none⟩ = _ := fun o => b3.cell (p := ⟨w.heap.size + 1, o, none⟩) (by go_size); have kfb3_1 : ∀ o, w3.frozen? ⟨w.heap.size + 1, o, none⟩ = _ := fun o => b3.frozen (p := ⟨w.heap.size + 1, o, none⟩) (by go_size); clear zzb3
  rw [HK.out]
  go_wp2_with fail
  refine (fraction_yes (p - s) (2 * r) _ (by omega) (by omega) (by omega) (by omega) HZ.out HE.out).mono ?_
  rintro e w4 ⟨rfl, b4⟩
  have zzb4 := b4.size; (try simp at zzb4); have zb4_0 : w.heap.size < w4.heap.size := (by omega); have kcb4_0 : ∀ o, w4.cell? ⟨w.heap.size, o, none⟩ = _ := fun o => b4.cell (p := ⟨w.heap.size, o, none⟩) (by go_size); have kfb4_0 : ∀ o, w4.frozen? ⟨w.heap.size, o, none⟩ = _ := fun o => b4.frozen (p := ⟨w.heap.size, o, none⟩) (by go_size); have zb4_1 : w.heap.size + 1 < w4.heap.size := (by omega); have kcb4_1 : ∀ o, w4.cell? ⟨w.heap.size + 1, o, none⟩ = _ := fun o => b4.cell (p := ⟨w.heap.size + 1, o, none⟩) (by go_size); have kfb4_1 : ∀ o, w4.frozen? ⟨w.heap.size + 1, o, none⟩ = _ := fun o => b4.frozen (p := ⟨w.heap.size + 1, o, none⟩) (by go_size); clear zzb4
  go_wp2
  exact bodyPost_ret (v := .tuple #[.agg #[.int .i64 (redP (p - s) (2 * r)), .int .i64 (redQ (p - s) (2 * r))], .int .i64 0]) (by simp only [results, Try.results36]; go_simp) rfl ⟨rfl, (by repeat' (first | (with_reducible exact Below.refl _ _) | (with_reducible assumption) | (with_reducible refine below_drewN ?_ _) | (with_reducible refine Below.drew ?_) | (with_reducible refine Below.alloc ?_ ?_ _) | (with_reducible refine Below.setCell ?_ ?_ _) | (with_reducible refine Below.trans ?_ (Below.mono (by with_reducible assumption) ?_)) | go_size | (dsimp only; omega)))⟩
theorem sKeptFraction_no (p q r s : Int) (w : World) (h : isM p q r s = false) :
    Calls Try.prog 35 #[.agg #[.int .i64 p, .int .i64 q, .int .i64 r, .int .i64 s]] w fun e w' => e = .returned (.tuple #[.agg #[.int .i64 0, .int .i64 0], .int .i64 1]) ∧ Below w.heap.size w w' := by
  go_enter Try.func35, Try.ntmps35
  go_wp2_with fail
  refine (l01Is_c _ _ _ _ _).mono ?_
  rintro e w1 ⟨rfl, b1⟩
  have zzb1 := b1.size; (try simp at zzb1); have zb1_0 : w.heap.size < w1.heap.size := (by omega); have kcb1_0 : ∀ o, w1.cell? ⟨w.heap.size, o, none⟩ = _ := fun o => b1.cell (p := ⟨w.heap.size, o, none⟩) (by go_size); have kfb1_0 : ∀ o, w1.frozen? ⟨w.heap.size, o, none⟩ = _ := fun o => b1.frozen (p := ⟨w.heap.size, o, none⟩) (by go_size); have zb1_1 : w.heap.size + 1 < w1.heap.size := (by omega); have kcb1_1 : ∀ o, w1.cell? ⟨w.heap.size + 1, o, none⟩ = _ := fun o => b1.cell (p := ⟨w.heap.size + 1, o, none⟩) (by go_size); have kfb1_1 : ∀ o, w1.frozen? ⟨w.heap.size + 1, o, none⟩ = _ := fun o => b1.frozen (p := ⟨w.heap.size + 1, o, none⟩) (by go_size); clear zzb1
  go_wp2
  exact bodyPost_ret (v := .tuple #[.agg #[.int .i64 0, .int .i64 0], .int .i64 1]) (by simp only [results, Try.results35]; go_simp) rfl ⟨rfl, (by repeat' (first | (with_reducible exact Below.refl _ _) | (with_reducible assumption) | (with_reducible refine below_drewN ?_ _) | (with_reducible refine Below.drew ?_) | (with_reducible refine Below.alloc ?_ ?_ _) | (with_reducible refine Below.setCell ?_ ?_ _) | (with_reducible refine Below.trans ?_ (Below.mono (by with_reducible assumption) ?_)) | go_size | (dsimp only; omega)))⟩
theorem sKeptFraction_state (p q r s : Int) (w : World) (h : isM p q r s = true) (hk : kindOf p q r s = 0) :
    Calls Try.prog 35 #[.agg #[.int .i64 p, .int .i64 q, .int .i64 r, .int .i64 s]] w fun e w' => e = .returned (.tuple #[.agg #[.int .i64 0, .int .i64 0], .int .i64 5]) ∧ Below w.heap.size w w' := by
  obtain ⟨⟨hp0, hp1⟩, ⟨hq0, hq1⟩, ⟨hr0, hr1⟩, ⟨hs0, hs1⟩, hd⟩ := isM_iff.mp h
  have HK := Lib.hid hk
  clear hd hk
  go_enter Try.func35, Try.ntmps35
  go_wp2_with fail
  refine (l01Is_c _ _ _ _ _).mono ?_
  rintro e w1 ⟨rfl, b1⟩
  have zzb1 := b1.size; (try simp at zzb1); have zb1_0 : w.heap.size < w1.heap.size := (by omega); have kcb1_0 : ∀ o, w1.cell? ⟨w.heap.size, o, none⟩ = _ := fun o => b1.cell (p := ⟨w.heap.size, o, none⟩) (by go_size); have kfb1_0 : ∀ o, w1.frozen? ⟨w.heap.size, o, none⟩ = _ := fun o => b1.frozen (p := ⟨w.heap.size, o, none⟩) (by go_size); have zb1_1 : w.heap.size + 1 < w1.heap.size := (by omega); have kcb1_1 : ∀ o, w1.cell? ⟨w.heap.size + 1, o, none⟩ = _ := fun o => b1.cell (p := ⟨w.heap.size + 1, o, none⟩) (by go_size); have kfb1_1 : ∀ o, w1.frozen? ⟨w.heap.size + 1, o, none⟩ = _ := fun o => b1.frozen (p := ⟨w.heap.size + 1, o, none⟩) (by go_size); clear zzb1
  go_wp2_with fail
  refine (l01Kind_c _ _ _ _ _ (by omega) (by omega) (by omega) (by omega)).mono ?_
  rintro e w2 ⟨rfl, b2⟩
  have zzb2 := b2.size; (try simp at zzb2); have zb2_0 : w.heap.size < w2.heap.size := (by omega); have kcb2_0 : ∀ o, w2.cell? ⟨w.heap.size, o, none⟩ = _ := fun o => b2.cell (p := ⟨w.heap.size, o, none⟩) (by go_size); have kfb2_0 : ∀ o, w2.frozen? ⟨w.heap.size, o, none⟩ = _ := fun o => b2.frozen (p := ⟨w.heap.size, o, none⟩) (by go_size); have zb2_1 : w.heap.size + 1 < w2.heap.size := (by omega); have kcb2_1 : ∀ o, w2.cell? ⟨w.heap.size + 1, o, none⟩ = _ := fun o => b2.cell (p := ⟨w.heap.size + 1, o, none⟩) (by go_size); have kfb2_1 : ∀ o, w2.frozen? ⟨w.heap.size + 1, o, none⟩ = _ := fun o => b2.frozen (p := ⟨w.heap.size + 1, o, none⟩) (by go_size); clear zzb2
  rw [HK.out]
  go_wp2
  exact bodyPost_ret (v := .tuple #[.agg #[.int .i64 0, .int .i64 0], .int .i64 5]) (by simp only [results, Try.results35]; go_simp) rfl ⟨rfl, (by repeat' (first | (with_reducible exact Below.refl _ _) | (with_reducible assumption) | (with_reducible refine below_drewN ?_ _) | (with_reducible refine Below.drew ?_) | (with_reducible refine Below.alloc ?_ ?_ _) | (with_reducible refine Below.setCell ?_ ?_ _) | (with_reducible refine Below.trans ?_ (Below.mono (by with_reducible assumption) ?_)) | go_size | (dsimp only; omega)))⟩
theorem sKeptFraction_far (p q r s : Int) (w : World) (h : isM p q r s = true) (k : Int) (hk : kindOf p q r s = k) (hkk : k = 1 ∨ k = 3) :
    Calls Try.prog 35 #[.agg #[.int .i64 p, .int .i64 q, .int .i64 r, .int .i64 s]] w fun e w' => e = .returned (.tuple #[.agg #[.int .i64 0, .int .i64 0], .int .i64 4]) ∧ Below w.heap.size w w' := by
  obtain ⟨⟨hp0, hp1⟩, ⟨hq0, hq1⟩, ⟨hr0, hr1⟩, ⟨hs0, hs1⟩, hd⟩ := isM_iff.mp h
  have HK := Lib.hid hk
  clear hd hk
  rcases hkk with rfl | rfl
  · go_enter Try.func35, Try.ntmps35
    go_wp2_with fail
    refine (l01Is_c _ _ _ _ _).mono ?_
    rintro e w1 ⟨rfl, b1⟩
    have zzb1 := b1.size; (try simp at zzb1); have zb1_0 : w.heap.size < w1.heap.size := (by omega); have kcb1_0 : ∀ o, w1.cell? ⟨w.heap.size, o, none⟩ = _ := fun o => b1.cell (p := ⟨w.heap.size, o, none⟩) (by go_size); have kfb1_0 : ∀ o, w1.frozen? ⟨w.heap.size, o, none⟩ = _ := fun o => b1.frozen (p := ⟨w.heap.size, o, none⟩) (by go_size); have zb1_1 : w.heap.size + 1 < w1.heap.size := (by omega); have kcb1_1 : ∀ o, w1.cell? ⟨w.heap.size + 1, o, none⟩ = _ := fun o => b1.cell (p := ⟨w.heap.size + 1, o, none⟩) (by go_size); have kfb1_1 : ∀ o, w1.frozen? ⟨w.heap.size + 1, o, none⟩ = _ := fun o => b1.frozen (p := ⟨w.heap.size + 1, o, none⟩) (by go_size); clear zzb1
    go_wp2_with fail
    refine (l01Kind_c _ _ _ _ _ (by omega) (by omega) (by omega) (by omega)).mono ?_
    rintro e w2 ⟨rfl, b2⟩
    have zzb2 := b2.size; (try simp at zzb2); have zb2_0 : w.heap.size < w2.heap.size := (by omega); have kcb2_0 : ∀ o, w2.cell? ⟨w.heap.size, o, none⟩ = _ := fun o => b2.cell (p := ⟨w.heap.size, o, none⟩) (by go_size); have kfb2_0 : ∀ o, w2.frozen? ⟨w.heap.size, o, none⟩ = _ := fun o => b2.frozen (p := ⟨w.heap.size, o, none⟩) (by go_size); have zb2_1 : w.heap.size + 1 < w2.heap.size := (by omega); have kcb2_1 : ∀ o, w2.cell? ⟨w.heap.size + 1, o, none⟩ = _ := fun o => b2.cell (p := ⟨w.heap.size + 1, o, none⟩) (by go_size); have kfb2_1 : ∀ o, w2.frozen? ⟨w.heap.size + 1, o, none⟩ = _ := fun o => b2.frozen (p := ⟨w.heap.size + 1, o, none⟩) (by go_size); clear zzb2
    rw [HK.out]
    go_wp2
    exact bodyPost_ret (v := .tuple #[.agg #[.int .i64 0, .int .i64 0], .int .i64 4]) (by simp only [results, Try.results35]; go_simp) rfl ⟨rfl, (by repeat' (first | (with_reducible exact Below.refl _ _) | (with_reducible assumption) | (with_reducible refine below_drewN ?_ _) | (with_reducible refine Below.drew ?_) | (with_reducible refine Below.alloc ?_ ?_ _) | (with_reducible refine Below.setCell ?_ ?_ _) | (with_reducible refine Below.trans ?_ (Below.mono (by with_reducible assumption) ?_)) | go_size | (dsimp only; omega)))⟩
  · go_enter Try.func35, Try.ntmps35
    go_wp2_with fail
    refine (l01Is_c _ _ _ _ _).mono ?_
    rintro e w1 ⟨rfl, b1⟩
    have zzb1 := b1.size; (try simp at zzb1); have zb1_0 : w.heap.size < w1.heap.size := (by omega); have kcb1_0 : ∀ o, w1.cell? ⟨w.heap.size, o, none⟩ = _ := fun o => b1.cell (p := ⟨w.heap.size, o, none⟩) (by go_size); have kfb1_0 : ∀ o, w1.frozen? ⟨w.heap.size, o, none⟩ = _ := fun o => b1.frozen (p := ⟨w.heap.size, o, none⟩) (by go_size); have zb1_1 : w.heap.size + 1 < w1.heap.size := (by omega); have kcb1_1 : ∀ o, w1.cell? ⟨w.heap.size + 1, o, none⟩ = _ := fun o => b1.cell (p := ⟨w.heap.size + 1, o, none⟩) (by go_size); have kfb1_1 : ∀ o, w1.frozen? ⟨w.heap.size + 1, o, none⟩ = _ := fun o => b1.frozen (p := ⟨w.heap.size + 1, o, none⟩) (by go_size); clear zzb1
    go_wp2_with fail
    refine (l01Kind_c _ _ _ _ _ (by omega) (by omega) (by omega) (by omega)).mono ?_
    rintro e w2 ⟨rfl, b2⟩
    have zzb2 := b2.size; (try simp at zzb2); have zb2_0 : w.heap.size < w2.heap.size := (by omega); have kcb2_0 : ∀ o, w2.cell? ⟨w.heap.size, o, none⟩ = _ := fun o => b2.cell (p := ⟨w.heap.size, o, none⟩) (by go_size); have kfb2_0 : ∀ o, w2.frozen? ⟨w.heap.size, o, none⟩ = _ := fun o => b2.frozen (p := ⟨w.heap.size, o, none⟩) (by go_size); have zb2_1 : w.heap.size + 1 < w2.heap.size := (by omega); have kcb2_1 : ∀ o, w2.cell? ⟨w.heap.size + 1, o, none⟩ = _ := fun o => b2.cell (p := ⟨w.heap.size + 1, o, none⟩) (by go_size); have kfb2_1 : ∀ o, w2.frozen? ⟨w.heap.size + 1, o, none⟩ = _ := fun o => b2.frozen (p := ⟨w.heap.size + 1, o, none⟩) (by go_size); clear zzb2
    rw [HK.out]
    go_wp2
    exact bodyPost_ret (v := .tuple #[.agg #[.int .i64 0, .int .i64 0], .int .i64 4]) (by simp only [results, Try.results35]; go_simp) rfl ⟨rfl, (by repeat' (first | (with_reducible exact Below.refl _ _) | (with_reducible assumption) | (with_reducible refine below_drewN ?_ _) | (with_reducible refine Below.drew ?_) | (with_reducible refine Below.alloc ?_ ?_ _) | (with_reducible refine Below.setCell ?_ ?_ _) | (with_reducible refine Below.trans ?_ (Below.mono (by with_reducible assumption) ?_)) | go_size | (dsimp only; omega)))⟩
theorem sKeptFraction_b (p q r s e : Int) (w : World) (h : isM p q r s = true) (hk : kindOf p q r s = 2) (he : (p + s).tdiv 2 = e) (e0 : -1 ≤ e) (e1 : e ≤ 1) (hq : q ≠ 0) :
    Calls Try.prog 35 #[.agg #[.int .i64 p, .int .i64 q, .int .i64 r, .int .i64 s]] w fun e' w' => e' = .returned (.tuple #[.agg #[.int .i64 (redP q (e - p)), .int .i64 (redQ q (e - p))], .int .i64 0]) ∧ Below w.heap.size w w' := by
  obtain ⟨⟨hp0, hp1⟩, ⟨hq0, hq1⟩, ⟨hr0, hr1⟩, ⟨hs0, hs1⟩, hd⟩ := isM_iff.mp h
  have HK := Lib.hid hk
  have HE := Lib.hid he
  have t0 : -1 ≤ (p + s).tdiv 2 := by omega
  have t1 : (p + s).tdiv 2 ≤ 1 := by omega
  have HZ := Lib.hid (show ¬ (q = 0 ∧ e - p = 0) by omega)
  have qq : (q == 0) = false := by simpa using hq
  clear hd hk he hq
  go_enter Try.func35, Try.ntmps35
  go_wp2_with fail
  refine (l01Is_c _ _ _ _ _).mono ?_
  rintro e w1 ⟨rfl, b1⟩
  have zzb1 := b1.size; (try simp at zzb1); have zb1_0 : w.heap.size < w1.heap.size := (by omega); have kcb1_0 : ∀ o, w1.cell? ⟨w.heap.size, o, none⟩ = _ := fun o => b1.cell (p := ⟨w.heap.size, o, none⟩) (by go_size); have kfb1_0 : ∀ o, w1.frozen? ⟨w.heap.size, o, none⟩ = _ := fun o => b1.frozen (p := ⟨w.heap.size, o, none⟩) (by go_size); have zb1_1 : w.heap.size + 1 < w1.heap.size := (by omega); have kcb1_1 : ∀ o, w1.cell? ⟨w.heap.size + 1, o, none⟩ = _ := fun o => b1.cell (p := ⟨w.heap.size + 1, o, none⟩) (by go_size); have kfb1_1 : ∀ o, w1.frozen? ⟨w.heap.size + 1, o, none⟩ = _ := fun o => b1.frozen (p := ⟨w.heap.size + 1, o, none⟩) (by go_size); clear zzb1
  go_wp2_with fail
  refine (l01Kind_c _ _ _ _ _ (by omega) (by omega) (by omega) (by omega)).mono ?_
  rintro e w2 ⟨rfl, b2⟩
  have zzb2 := b2.size; (try simp at zzb2); have zb2_0 : w.heap.size < w2.heap.size := (by omega); have kcb2_0 : ∀ o, w2.cell? ⟨w.heap.size, o, none⟩ = _ := fun o => b2.cell (p := ⟨w.heap.size, o, none⟩) (by go_size); have kfb2_0 : ∀ o, w2.frozen? ⟨w.heap.size, o, none⟩ = _ := fun o => b2.frozen (p := ⟨w.heap.size, o, none⟩) (by go_size); have zb2_1 : w.heap.size + 1 < w2.heap.size := (by omega); have kcb2_1 : ∀ o, w2.cell? ⟨w.heap.size + 1, o, none⟩ = _ := fun o => b2.cell (p := ⟨w.heap.size + 1, o, none⟩) (by go_size); have kfb2_1 : ∀ o, w2.frozen? ⟨w.heap.size + 1, o, none⟩ = _ := fun o => b2.frozen (p := ⟨w.heap.size + 1, o, none⟩) (by go_size); clear zzb2
  rw [HK.out]
  go_wp2_with fail
  refine (l01Trace_c _ _ _ _ _ (by omega) (by omega) (by omega) (by omega)).mono ?_
  rintro e w3 ⟨rfl, b3⟩
  have zzb3 := b3.size; (try simp at zzb3); have zb3_0 : w.heap.size < w3.heap.size := (by omega); have kcb3_0 : ∀ o, w3.cell? ⟨w.heap.size, o, none⟩ = _ := fun o => b3.cell (p := ⟨w.heap.size, o, none⟩) (by go_size); have kfb3_0 : ∀ o, w3.frozen? ⟨w.heap.size, o, none⟩ = _ := fun o => b3.frozen (p := ⟨w.heap.size, o, none⟩) (by go_size); have zb3_1 : w.heap.size + 1 < w3.heap.size := (by omega); have kcb3_1 : ∀ o, w3.cell? ⟨w.heap.size + 1, o, none⟩ = _ := fun o => b3.cell (p := ⟨w.heap.size + 1, o, none⟩) (by go_size); have kfb3_1 : ∀ o, w3.frozen? ⟨w.heap.size + 1, o, none⟩ = _ := fun o => b3.frozen (p := ⟨w.heap.size + 1, o, none⟩) (by go_size); clear zzb3
  go_wp2_with fail
  rw [HE.out]
  refine (l01Reduced_c q (e - p) _ (by omega) (by omega) (by omega) (by omega) HZ.out).mono ?_
  rintro e w4 ⟨rfl, b4⟩
  have zzb4 := b4.size; (try simp at zzb4); have zb4_0 : w.heap.size < w4.heap.size := (by omega); have kcb4_0 : ∀ o, w4.cell? ⟨w.heap.size, o, none⟩ = _ := fun o => b4.cell (p := ⟨w.heap.size, o, none⟩) (by go_size); have kfb4_0 : ∀ o, w4.frozen? ⟨w.heap.size, o, none⟩ = _ := fun o => b4.frozen (p := ⟨w.heap.size, o, none⟩) (by go_size); have zb4_1 : w.heap.size + 1 < w4.heap.size := (by omega); have kcb4_1 : ∀ o, w4.cell? ⟨w.heap.size + 1, o, none⟩ = _ := fun o => b4.cell (p := ⟨w.heap.size + 1, o, none⟩) (by go_size); have kfb4_1 : ∀ o, w4.frozen? ⟨w.heap.size + 1, o, none⟩ = _ := fun o => b4.frozen (p := ⟨w.heap.size + 1, o, none⟩) (by go_size); clear zzb4
  go_wp2
  exact bodyPost_ret (v := .tuple #[.agg #[.int .i64 (redP q (e - p)), .int .i64 (redQ q (e - p))], .int .i64 0]) (by simp only [results, Try.results35]; go_simp) rfl ⟨rfl, (by repeat' (first | (with_reducible exact Below.refl _ _) | (with_reducible assumption) | (with_reducible refine below_drewN ?_ _) | (with_reducible refine Below.drew ?_) | (with_reducible refine Below.alloc ?_ ?_ _) | (with_reducible refine Below.setCell ?_ ?_ _) | (with_reducible refine Below.trans ?_ (Below.mono (by with_reducible assumption) ?_)) | go_size | (dsimp only; omega)))⟩
theorem sKeptFraction_c (p r s e : Int) (w : World) (h : isM p 0 r s = true) (hk : kindOf p 0 r s = 2) (he : (p + s).tdiv 2 = e) (e0 : -1 ≤ e) (e1 : e ≤ 1) (hr : r ≠ 0) :
    Calls Try.prog 35 #[.agg #[.int .i64 p, .int .i64 0, .int .i64 r, .int .i64 s]] w fun e' w' => e' = .returned (.tuple #[.agg #[.int .i64 (redP (e - s) r), .int .i64 (redQ (e - s) r)], .int .i64 0]) ∧ Below w.heap.size w w' := by
  obtain ⟨⟨hp0, hp1⟩, ⟨hq0, hq1⟩, ⟨hr0, hr1⟩, ⟨hs0, hs1⟩, hd⟩ := isM_iff.mp h
  have HK := Lib.hid hk
  have HE := Lib.hid he
  have t0 : -1 ≤ (p + s).tdiv 2 := by omega
  have t1 : (p + s).tdiv 2 ≤ 1 := by omega
  have HZ := Lib.hid (show ¬ (e - s = 0 ∧ r = 0) by omega)
  clear hd hk he hr
  go_enter Try.func35, Try.ntmps35
  go_wp2_with fail
  refine (l01Is_c _ _ _ _ _).mono ?_
  rintro e w1 ⟨rfl, b1⟩
  have zzb1 := b1.size; (try simp at zzb1); have zb1_0 : w.heap.size < w1.heap.size := (by omega); have kcb1_0 : ∀ o, w1.cell? ⟨w.heap.size, o, none⟩ = _ := fun o => b1.cell (p := ⟨w.heap.size, o, none⟩) (by go_size); have kfb1_0 : ∀ o, w1.frozen? ⟨w.heap.size, o, none⟩ = _ := fun o => b1.frozen (p := ⟨w.heap.size, o, none⟩) (by go_size); have zb1_1 : w.heap.size + 1 < w1.heap.size := (by omega); have kcb1_1 : ∀ o, w1.cell? ⟨w.heap.size + 1, o, none⟩ = _ := fun o => b1.cell (p := ⟨w.heap.size + 1, o, none⟩) (by go_size); have kfb1_1 : ∀ o, w1.frozen? ⟨w.heap.size + 1, o, none⟩ = _ := fun o => b1.frozen (p := ⟨w.heap.size + 1, o, none⟩) (by go_size); clear zzb1
  go_wp2_with fail
  refine (l01Kind_c _ _ _ _ _ (by omega) (by omega) (by omega) (by omega)).mono ?_
  rintro e w2 ⟨rfl, b2⟩
  have zzb2 := b2.size; (try simp at zzb2); have zb2_0 : w.heap.size < w2.heap.size := (by omega); have kcb2_0 : ∀ o, w2.cell? ⟨w.heap.size, o, none⟩ = _ := fun o => b2.cell (p := ⟨w.heap.size, o, none⟩) (by go_size); have kfb2_0 : ∀ o, w2.frozen? ⟨w.heap.size, o, none⟩ = _ := fun o => b2.frozen (p := ⟨w.heap.size, o, none⟩) (by go_size); have zb2_1 : w.heap.size + 1 < w2.heap.size := (by omega); have kcb2_1 : ∀ o, w2.cell? ⟨w.heap.size + 1, o, none⟩ = _ := fun o => b2.cell (p := ⟨w.heap.size + 1, o, none⟩) (by go_size); have kfb2_1 : ∀ o, w2.frozen? ⟨w.heap.size + 1, o, none⟩ = _ := fun o => b2.frozen (p := ⟨w.heap.size + 1, o, none⟩) (by go_size); clear zzb2
  rw [HK.out]
  go_wp2_with fail
  refine (l01Trace_c _ _ _ _ _ (by omega) (by omega) (by omega) (by omega)).mono ?_
  rintro e w3 ⟨rfl, b3⟩
  have zzb3 := b3.size; (try simp at zzb3); have zb3_0 : w.heap.size < w3.heap.size := (by omega); have kcb3_0 : ∀ o, w3.cell? ⟨w.heap.size, o, none⟩ = _ := fun o => b3.cell (p := ⟨w.heap.size, o, none⟩) (by go_size); have kfb3_0 : ∀ o, w3.frozen? ⟨w.heap.size, o, none⟩ = _ := fun o => b3.frozen (p := ⟨w.heap.size, o, none⟩) (by go_size); have zb3_1 : w.heap.size + 1 < w3.heap.size := (by omega); have kcb3_1 : ∀ o, w3.cell? ⟨w.heap.size + 1, o, none⟩ = _ := fun o => b3.cell (p := ⟨w.heap.size + 1, o, none⟩) (by go_size); have kfb3_1 : ∀ o, w3.frozen? ⟨w.heap.size + 1, o, none⟩ = _ := fun o => b3.frozen (p := ⟨w.heap.size + 1, o, none⟩) (by go_size); clear zzb3
  go_wp2_with fail
  rw [HE.out]
  refine (l01Reduced_c (e - s) r _ (by omega) (by omega) (by omega) (by omega) HZ.out).mono ?_
  rintro e w4 ⟨rfl, b4⟩
  have zzb4 := b4.size; (try simp at zzb4); have zb4_0 : w.heap.size < w4.heap.size := (by omega); have kcb4_0 : ∀ o, w4.cell? ⟨w.heap.size, o, none⟩ = _ := fun o => b4.cell (p := ⟨w.heap.size, o, none⟩) (by go_size); have kfb4_0 : ∀ o, w4.frozen? ⟨w.heap.size, o, none⟩ = _ := fun o => b4.frozen (p := ⟨w.heap.size, o, none⟩) (by go_size); have zb4_1 : w.heap.size + 1 < w4.heap.size := (by omega); have kcb4_1 : ∀ o, w4.cell? ⟨w.heap.size + 1, o, none⟩ = _ := fun o => b4.cell (p := ⟨w.heap.size + 1, o, none⟩) (by go_size); have kfb4_1 : ∀ o, w4.frozen? ⟨w.heap.size + 1, o, none⟩ = _ := fun o => b4.frozen (p := ⟨w.heap.size + 1, o, none⟩) (by go_size); clear zzb4
  go_wp2
  exact bodyPost_ret (v := .tuple #[.agg #[.int .i64 (redP (e - s) r), .int .i64 (redQ (e - s) r)], .int .i64 0]) (by simp only [results, Try.results35]; go_simp) rfl ⟨rfl, (by repeat' (first | (with_reducible exact Below.refl _ _) | (with_reducible assumption) | (with_reducible refine below_drewN ?_ _) | (with_reducible refine Below.drew ?_) | (with_reducible refine Below.alloc ?_ ?_ _) | (with_reducible refine Below.setCell ?_ ?_ _) | (with_reducible refine Below.trans ?_ (Below.mono (by with_reducible assumption) ?_)) | go_size | (dsimp only; omega)))⟩
set_option maxHeartbeats 8000000 in
theorem FnExactKeptFraction_w (p0 q0 r0 s0 : Int) (W : World) :
    Calls Try.prog 9 #[.agg #[.int .i64 p0, .int .i64 q0, .int .i64 r0, .int .i64 s0]] W fun e w' => e = .returned (.bool true) ∧ Below W.heap.size W w' := by
  obtain ⟨x0, x1, x2, K1, K2⟩ : ∃ (x0 : Int) (x1 : Int) (x2 : Int), Hid (∀ w, Calls Try.prog 36 #[.agg #[.int .i64 p0, .int .i64 q0, .int .i64 r0, .int .i64 s0]] w fun e w' => e = .returned (.tuple #[.agg #[.int .i64 x0, .int .i64 x1], .int .i64 x2]) ∧ Below w.heap.size w w') ∧ Hid (∀ w, Calls Try.prog 35 #[.agg #[.int .i64 p0, .int .i64 q0, .int .i64 r0, .int .i64 s0]] w fun e w' => e = .returned (.tuple #[.agg #[.int .i64 x0, .int .i64 x1], .int .i64 x2]) ∧ Below w.heap.size w w') := by
    cases h : isM p0 q0 r0 s0
    · exact ⟨_, _, _, fun w => KeptFraction_no _ _ _ _ w h, fun w => sKeptFraction_no _ _ _ _ w h⟩
    · have hkk : kindOf p0 q0 r0 s0 = 0 ∨ kindOf p0 q0 r0 s0 = 1 ∨ kindOf p0 q0 r0 s0 = 2 ∨ kindOf p0 q0 r0 s0 = 3 := by unfold kindOf; grind
      rcases hkk with hk | hk | hk | hk
      · exact ⟨_, _, _, fun w => KeptFraction_state _ _ _ _ w h hk, fun w => sKeptFraction_state _ _ _ _ w h hk⟩
      · exact ⟨_, _, _, fun w => KeptFraction_far _ _ _ _ w h 1 hk (by decide) (by decide), fun w => sKeptFraction_far _ _ _ _ w h 1 hk (.inl rfl)⟩
      · obtain ⟨e, he, hee, hs, hqr, hz⟩ := kept_cases h hk
        obtain ⟨⟨hp0, hp1⟩, ⟨hq0, hq1⟩, ⟨hr0, hr1⟩, ⟨hs0, hs1⟩, -⟩ := isM_iff.mp h
        by_cases hr : r0 = 0
        · subst hr
          rw [Int.mul_zero] at hqr
          have hpe := sq_zero hqr
          have hq : q0 ≠ 0 := fun hq => hz ⟨hq, rfl⟩
          have e1 := red_mul (a := 1) (b := 0) (k := q0) (by decide) (.inr ⟨rfl, rfl⟩) hq
          rw [Int.mul_one, Int.mul_zero] at e1
          have e2 : e - p0 = 0 := by omega
          exact ⟨1, 0, 0, fun w => KeptFraction_inf _ _ _ w h hk, fun w => by
            have := sKeptFraction_b p0 q0 0 s0 e w h hk he (by omega) (by omega) hq
            rw [e2, e1.1, e1.2] at this; exact this⟩
        · have hq2 : redP (p0 - s0) (2 * r0) = redP (p0 - e) r0 ∧ redQ (p0 - s0) (2 * r0) = redQ (p0 - e) r0 :=
            red_eq (by subst hs; grind) (by omega) (by omega)
          have hent : (ent (redP (p0 - s0) (2 * r0)) && ent (redQ (p0 - s0) (2 * r0))) = true := by
            rw [hq2.1, hq2.2]; exact ediv_entK (ent_iff.mpr (by omega)) (ent_iff.mpr (by omega))
          by_cases hq : q0 = 0
          · subst hq
            rw [Int.zero_mul] at hqr
            have hpe := sq_zero hqr
            have h3 : redP (e - s0) r0 = redP (p0 - s0) (2 * r0) ∧ redQ (e - s0) r0 = redQ (p0 - s0) (2 * r0) :=
              red_eq (by rw [show e - s0 = 0 by omega, show p0 - s0 = 0 by omega]; simp) (by omega) (by omega)
            exact ⟨_, _, _, fun w => KeptFraction_yes _ _ _ _ w h hk hr hent, fun w => by
              have := sKeptFraction_c p0 r0 s0 e w h hk he (by omega) (by omega) hr
              rw [h3.1, h3.2] at this; exact this⟩
          · have h3 : redP q0 (e - p0) = redP (p0 - s0) (2 * r0) ∧ redQ q0 (e - p0) = redQ (p0 - s0) (2 * r0) :=
              red_eq (by subst hs; grind) (by omega) (by omega)
            exact ⟨_, _, _, fun w => KeptFraction_yes _ _ _ _ w h hk hr hent, fun w => by
              have := sKeptFraction_b p0 q0 r0 s0 e w h hk he (by omega) (by omega) hq
              rw [h3.1, h3.2] at this; exact this⟩
      · exact ⟨_, _, _, fun w => KeptFraction_far _ _ _ _ w h 3 hk (by decide) (by decide), fun w => sKeptFraction_far _ _ _ _ w h 3 hk (.inr rfl)⟩
  go_enter Try.func9, Try.ntmps9
  go_wp2_with fail
  refine (toMatrix_c _ _ _ _ _).mono ?_
  rintro e w0 ⟨rfl, b0⟩
  have zzb0 := b0.size; (try simp at zzb0); have zb0_0 : W.heap.size < w0.heap.size := (by omega); have kcb0_0 : ∀ o, w0.cell? ⟨W.heap.size, o, none⟩ = _ := fun o => b0.cell (p := ⟨W.heap.size, o, none⟩) (by go_size); have kfb0_0 : ∀ o, w0.frozen? ⟨W.heap.size, o, none⟩ = _ := fun o => b0.frozen (p := ⟨W.heap.size, o, none⟩) (by go_size); clear zzb0
  go_wp2_with fail
  refine (K2.out _).mono ?_
  rintro e wa ⟨rfl, ba⟩
  have zzba := ba.size; (try simp at zzba); have zba_0 : W.heap.size < wa.heap.size := (by omega); have kcba_0 : ∀ o, wa.cell? ⟨W.heap.size, o, none⟩ = _ := fun o => ba.cell (p := ⟨W.heap.size, o, none⟩) (by go_size); have kfba_0 : ∀ o, wa.frozen? ⟨W.heap.size, o, none⟩ = _ := fun o => ba.frozen (p := ⟨W.heap.size, o, none⟩) (by go_size); clear zzba
  go_wp2_with fail
  refine (toMatrix_c _ _ _ _ _).mono ?_
  rintro e w2 ⟨rfl, b2⟩
  have zzb2 := b2.size; (try simp at zzb2); have zb2_W0 : W.heap.size < w2.heap.size := (by omega); have kcb2_W0 : ∀ o, w2.cell? ⟨W.heap.size, o, none⟩ = _ := fun o => b2.cell (p := ⟨W.heap.size, o, none⟩) (by go_size); have kfb2_W0 : ∀ o, w2.frozen? ⟨W.heap.size, o, none⟩ = _ := fun o => b2.frozen (p := ⟨W.heap.size, o, none⟩) (by go_size); have zb2_wa0 : wa.heap.size < w2.heap.size := (by omega); have kcb2_wa0 : ∀ o, w2.cell? ⟨wa.heap.size, o, none⟩ = _ := fun o => b2.cell (p := ⟨wa.heap.size, o, none⟩) (by go_size); have kfb2_wa0 : ∀ o, w2.frozen? ⟨wa.heap.size, o, none⟩ = _ := fun o => b2.frozen (p := ⟨wa.heap.size, o, none⟩) (by go_size); clear zzb2
  go_wp2_with fail
  refine (K1.out _).mono ?_
  rintro e wb ⟨rfl, bb⟩
  have zzbb := bb.size; (try simp at zzbb); have zbb_W0 : W.heap.size < wb.heap.size := (by omega); have kcbb_W0 : ∀ o, wb.cell? ⟨W.heap.size, o, none⟩ = _ := fun o => bb.cell (p := ⟨W.heap.size, o, none⟩) (by go_size); have kfbb_W0 : ∀ o, wb.frozen? ⟨W.heap.size, o, none⟩ = _ := fun o => bb.frozen (p := ⟨W.heap.size, o, none⟩) (by go_size); have zbb_wa0 : wa.heap.size < wb.heap.size := (by omega); have kcbb_wa0 : ∀ o, wb.cell? ⟨wa.heap.size, o, none⟩ = _ := fun o => bb.cell (p := ⟨wa.heap.size, o, none⟩) (by go_size); have kfbb_wa0 : ∀ o, wb.frozen? ⟨wa.heap.size, o, none⟩ = _ := fun o => bb.frozen (p := ⟨wa.heap.size, o, none⟩) (by go_size); clear zzbb
  go_wp2_with fail
  refine (eqFraction_same _ _ _).mono ?_
  rintro e w5 ⟨rfl, b5⟩
  have zzb5 := b5.size; (try simp at zzb5); clear zzb5
  go_wp2
  go_returns
  exact ⟨rfl, (by repeat' (first | (with_reducible exact Below.refl _ _) | (with_reducible assumption) | (with_reducible refine below_drewN ?_ _) | (with_reducible refine Below.drew ?_) | (with_reducible refine Below.alloc ?_ ?_ _) | (with_reducible refine Below.setCell ?_ ?_ _) | (with_reducible refine Below.trans ?_ (Below.mono (by with_reducible assumption) ?_)) | go_size | (dsimp only; omega)))⟩

end Go.Proofs.Ytiilkonoaomchaa
