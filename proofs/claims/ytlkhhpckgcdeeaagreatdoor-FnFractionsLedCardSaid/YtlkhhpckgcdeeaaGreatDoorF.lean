/- Fractions: divisors, what a fraction is, the fraction that two numbers make. -/
import Derived.Test.YtlkhhpckgcdeeaaGreatDoorB
namespace Go.Proofs.YtlkhhpckgcdeeaaGreatDoor
open Go.RowKit
set_option linter.unusedVariables false
set_option linter.unusedSimpArgs false
attribute [local go_sem] run_min_int4 run_max_int4
attribute [local go_sem] run_equalIn_M
attribute [local go_sem] run_equalIn_Q
theorem gcd_tmod (a b : Int) : Int.gcd b (a.tmod b) = Int.gcd a b := by
  show Nat.gcd b.natAbs (a.tmod b).natAbs = Nat.gcd a.natAbs b.natAbs
  rw [Int.natAbs_tmod, Nat.gcd_comm b.natAbs, ← Nat.gcd_rec, Nat.gcd_comm]
theorem tmod_lt (a b : Int) (h : b ≠ 0) : (a.tmod b).natAbs < b.natAbs := by
  rw [Int.natAbs_tmod]; exact Nat.mod_lt _ (by omega)
theorem tmod_le (a b : Int) : (a.tmod b).natAbs ≤ a.natAbs := by
  rw [Int.natAbs_tmod]; exact Nat.mod_le _ _
theorem divisor_c (a b : Int) (w : World) (ha0 : -4611686018427387904 ≤ a) (ha1 : a ≤ 4611686018427387904) (hb0 : -4611686018427387904 ≤ b) (hb1 : b ≤ 4611686018427387904) :
    Calls Tryz.prog 72 #[.int .i64 a, .int .i64 b] w fun e w' => e = .returned (.int .i64 (Int.gcd a b)) ∧ ∃ n, w' = w.drewN n := by
  go_enter Tryz.func72, Tryz.ntmps72
  go_wp2
  go_loopw [0, 1] (fun x y wr => ∃ p q : Int, x = .int .i64 p ∧ y = .int .i64 q ∧ -4611686018427387904 ≤ p ∧ p ≤ 4611686018427387904 ∧ -4611686018427387904 ≤ q ∧ q ≤ 4611686018427387904 ∧ Hid (Int.gcd p q = Int.gcd a b) ∧ Hid (∃ n, wr = w.drewN n)) (fun x y wr => (intOf y).natAbs)
  case atStart => exact ⟨a, b, rfl, rfl, ha0, ha1, hb0, hb1, rfl, ⟨0, rfl⟩⟩
  case round =>
    obtain ⟨p, q, rfl, rfl, hp0, hp1, hq0, hq1, HG, HW⟩ := hrel
    by_cases h : q = 0
    · subst h
      go_wp2_with (go_at_call 116; refine (size_c _ _ (by omega) (by omega)).mono ?_; rintro e w' ⟨rfl, rfl⟩)
      go_ret
      exact ⟨ret_int (by rw [← HG.out]; simp; omega), HW.out⟩
    · have h1 : (q == 0) = false := by simpa using h
      have h2 : (q != 0) = true := by simpa using h
      go_wp2
      go_quiet (fail)
      go_wp2
      go_roundw
      case rel => exact ⟨q, p.tmod q, rfl, rfl, hq0, hq1, by have := tmod_le p q; omega, by have := tmod_le p q; omega, (gcd_tmod p q).trans HG.out, by obtain ⟨n, rfl⟩ := HW.out; exact ⟨n + nq, by rw [World.drewN_drewN]⟩⟩
      case measure => simp only [intOf]; exact tmod_lt p q h
theorem l01Gcd_c (a b : Int) (w : World) (ha0 : -4611686018427387904 ≤ a) (ha1 : a ≤ 4611686018427387904) (hb0 : -4611686018427387904 ≤ b) (hb1 : b ≤ 4611686018427387904) :
    Calls Tryz.prog 114 #[.int .i64 a, .int .i64 b] w fun e w' => e = .returned (.int .i64 (Int.gcd a b)) ∧ w = w' := by
  go_enter Tryz.func114, Tryz.ntmps114
  go_wp2
  go_loop [0, 1] (fun x y => ∃ p q : Int, x = .int .i64 p ∧ y = .int .i64 q ∧ -4611686018427387904 ≤ p ∧ p ≤ 4611686018427387904 ∧ -4611686018427387904 ≤ q ∧ q ≤ 4611686018427387904 ∧ Hid (Int.gcd p q = Int.gcd a b)) (fun x y => (intOf y).natAbs)
  case atStart => exact ⟨a, b, rfl, rfl, ha0, ha1, hb0, hb1, rfl⟩
  case round =>
    obtain ⟨p, q, rfl, rfl, hp0, hp1, hq0, hq1, HG⟩ := hrel
    by_cases h : q = 0
    · subst h
      go_wp2
      all_goals (go_ret; exact ⟨ret_int (by rw [← HG.out]; simp; omega), rfl⟩)
    · have h1 : (q == 0) = false := by simpa using h
      have h2 : (q != 0) = true := by simpa using h
      go_wp2
      go_round
      case rel => exact ⟨q, p.tmod q, rfl, rfl, hq0, hq1, by have := tmod_le p q; omega, by have := tmod_le p q; omega, (gcd_tmod p q).trans HG.out⟩
      case measure => simp only [intOf]; exact tmod_lt p q h
/-- a fraction -/
def isF (p q : Int) : Bool := ent p && ent q && decide (0 ≤ q) && decide (Int.gcd p q = 1) && (decide (0 < q) || decide (p = 1))
theorem isF_iff {p q : Int} : isF p q = true ↔ (-1000000000 ≤ p ∧ p ≤ 1000000000) ∧ (0 ≤ q ∧ q ≤ 1000000000) ∧ Int.gcd p q = 1 ∧ (0 < q ∨ p = 1) := by
  unfold isF
  simp only [Bool.and_eq_true, Bool.or_eq_true, ent_iff, decide_eq_true_eq]
  omega
theorem IsFraction_c (p q : Int) (w : World) :
    Calls Tryz.prog 9 #[.agg #[.int .i64 p, .int .i64 q]] w fun e w' => e = .returned (.bool (isF p q)) ∧ Below w.heap.size w w' := by
  cases he : (ent p && ent q)
  · have hx : isF p q = false := by simp [isF, he]
    rw [hx]
    clear hx
    have H := Lib.hid he
    clear he
    go_enter Tryz.func9, Tryz.ntmps9
    go_wp2_with fail
    refine (areEntries_2 _ p q _ (by go_cell) (by go_cell)).mono ?_
    rintro e w1 ⟨rfl, rfl⟩
    rw [H.out]
    go_wp2
    go_returns
    exact ⟨rfl, (by repeat' (first | (with_reducible exact Below.refl _ _) | (with_reducible assumption) | (with_reducible refine below_drewN ?_ _) | (with_reducible refine Below.drew ?_) | (with_reducible refine Below.alloc ?_ ?_ _) | (with_reducible refine Below.setCell ?_ ?_ _) | (with_reducible refine Below.trans ?_ (Below.mono (by with_reducible assumption) ?_)) | go_size | (dsimp only; omega)))⟩
  · have he' := he
    rw [Bool.and_eq_true] at he'
    obtain ⟨⟨hp0, hp1⟩, hq0, hq1⟩ := And.intro (ent_iff.mp he'.1) (ent_iff.mp he'.2)
    have hx : isF p q = (decide (0 ≤ q) && decide (Int.gcd p q = 1) && (decide (0 < q) || decide (p = 1))) := by simp [isF, he'.1, he'.2]
    rw [hx]
    clear hx he'
    have H := Lib.hid he
    clear he
    by_cases hq : 0 ≤ q
    · by_cases hg : Int.gcd p q = 1
      · by_cases hq2 : 0 < q
        · skip
          go_enter Tryz.func9, Tryz.ntmps9
          go_wp2_with fail
          refine (areEntries_2 _ p q _ (by go_cell) (by go_cell)).mono ?_
          rintro e w1 ⟨rfl, rfl⟩
          rw [H.out]
          go_wp2_with (go_at_call 72; refine (divisor_c p q _ (by omega) (by omega) (by omega) (by omega)).mono ?_; rintro e w1 ⟨rfl, nd, rfl⟩)
          all_goals (go_returns; exact ⟨ret_bool (by first | (simp [*]; done) | grind), (by repeat' (first | (with_reducible exact Below.refl _ _) | (with_reducible assumption) | (with_reducible refine below_drewN ?_ _) | (with_reducible refine Below.drew ?_) | (with_reducible refine Below.alloc ?_ ?_ _) | (with_reducible refine Below.setCell ?_ ?_ _) | (with_reducible refine Below.trans ?_ (Below.mono (by with_reducible assumption) ?_)) | go_size | (dsimp only; omega)))⟩)
        · skip
          go_enter Tryz.func9, Tryz.ntmps9
          go_wp2_with fail
          refine (areEntries_2 _ p q _ (by go_cell) (by go_cell)).mono ?_
          rintro e w1 ⟨rfl, rfl⟩
          rw [H.out]
          go_wp2_with (go_at_call 72; refine (divisor_c p q _ (by omega) (by omega) (by omega) (by omega)).mono ?_; rintro e w1 ⟨rfl, nd, rfl⟩)
          all_goals (go_returns; exact ⟨ret_bool (by first | (simp [*]; done) | grind), (by repeat' (first | (with_reducible exact Below.refl _ _) | (with_reducible assumption) | (with_reducible refine below_drewN ?_ _) | (with_reducible refine Below.drew ?_) | (with_reducible refine Below.alloc ?_ ?_ _) | (with_reducible refine Below.setCell ?_ ?_ _) | (with_reducible refine Below.trans ?_ (Below.mono (by with_reducible assumption) ?_)) | go_size | (dsimp only; omega)))⟩)
      · have hg1 : ((Int.gcd p q : Int) == 1) = false := by simpa using (show ¬ ((Int.gcd p q : Int) = 1) by omega)
        go_enter Tryz.func9, Tryz.ntmps9
        go_wp2_with fail
        refine (areEntries_2 _ p q _ (by go_cell) (by go_cell)).mono ?_
        rintro e w1 ⟨rfl, rfl⟩
        rw [H.out]
        go_wp2_with (go_at_call 72; refine (divisor_c p q _ (by omega) (by omega) (by omega) (by omega)).mono ?_; rintro e w1 ⟨rfl, nd, rfl⟩)
        all_goals (go_returns; exact ⟨ret_bool (by first | (simp [*]; done) | grind), (by repeat' (first | (with_reducible exact Below.refl _ _) | (with_reducible assumption) | (with_reducible refine below_drewN ?_ _) | (with_reducible refine Below.drew ?_) | (with_reducible refine Below.alloc ?_ ?_ _) | (with_reducible refine Below.setCell ?_ ?_ _) | (with_reducible refine Below.trans ?_ (Below.mono (by with_reducible assumption) ?_)) | go_size | (dsimp only; omega)))⟩)
    · skip
      go_enter Tryz.func9, Tryz.ntmps9
      go_wp2_with fail
      refine (areEntries_2 _ p q _ (by go_cell) (by go_cell)).mono ?_
      rintro e w1 ⟨rfl, rfl⟩
      rw [H.out]
      go_wp2_with (go_at_call 72; refine (divisor_c p q _ (by omega) (by omega) (by omega) (by omega)).mono ?_; rintro e w1 ⟨rfl, nd, rfl⟩)
      all_goals (go_returns; exact ⟨ret_bool (by first | (simp [*]; done) | grind), (by repeat' (first | (with_reducible exact Below.refl _ _) | (with_reducible assumption) | (with_reducible refine below_drewN ?_ _) | (with_reducible refine Below.drew ?_) | (with_reducible refine Below.alloc ?_ ?_ _) | (with_reducible refine Below.setCell ?_ ?_ _) | (with_reducible refine Below.trans ?_ (Below.mono (by with_reducible assumption) ?_)) | go_size | (dsimp only; omega)))⟩)
theorem l01Fraction_c (p q : Int) (w : World) :
    Calls Tryz.prog 69 #[.agg #[.int .i64 p, .int .i64 q]] w fun e w' => e = .returned (.bool (isF p q)) ∧ Below w.heap.size w w' := by
  cases he : ent p
  · have hx : isF p q = false := by simp [isF, he]
    rw [hx]
    clear hx
    go_enter Tryz.func69, Tryz.ntmps69
    go_wp2_with fail
    refine (l01Entry_c _ _).mono ?_
    rintro e w1 ⟨rfl, rfl⟩
    go_wp2
    go_returns
    exact ⟨rfl, (by repeat' (first | (with_reducible exact Below.refl _ _) | (with_reducible assumption) | (with_reducible refine below_drewN ?_ _) | (with_reducible refine Below.drew ?_) | (with_reducible refine Below.alloc ?_ ?_ _) | (with_reducible refine Below.setCell ?_ ?_ _) | (with_reducible refine Below.trans ?_ (Below.mono (by with_reducible assumption) ?_)) | go_size | (dsimp only; omega)))⟩
  · have he' := ent_iff.mp he
    obtain ⟨hp0, hp1⟩ := he'
    by_cases hq1 : q ≤ 1000000000
    · have hx : isF p q = (decide (0 ≤ q) && decide (Int.gcd p q = 1) && (decide (0 < q) || decide (p = 1))) := by
        unfold isF
        by_cases hq : 0 ≤ q
        · simp [ent, hq1, hp0, hp1, show -1000000000 ≤ q by omega]
        · simp [he, ent, hq]
      rw [hx]
      clear hx
      by_cases hq : 0 ≤ q
      · by_cases hg : Int.gcd p q = 1
        · by_cases hq2 : 0 < q
          · skip
            go_enter Tryz.func69, Tryz.ntmps69
            go_wp2_with (first | (go_at_call 90; refine (l01Entry_c _ _).mono ?_; rintro e w1 ⟨rfl, rfl⟩) | (go_at_call 93; refine (l01In_c _ _ _ _).mono ?_; rintro e w1 ⟨rfl, rfl⟩) | (go_at_call 114; refine (l01Gcd_c p q _ (by omega) (by omega) (by omega) (by omega)).mono ?_; rintro e w1 ⟨rfl, rfl⟩))
            all_goals (go_returns; exact ⟨ret_bool (by first | (simp [*]; done) | grind), (by repeat' (first | (with_reducible exact Below.refl _ _) | (with_reducible assumption) | (with_reducible refine below_drewN ?_ _) | (with_reducible refine Below.drew ?_) | (with_reducible refine Below.alloc ?_ ?_ _) | (with_reducible refine Below.setCell ?_ ?_ _) | (with_reducible refine Below.trans ?_ (Below.mono (by with_reducible assumption) ?_)) | go_size | (dsimp only; omega)))⟩)
          · skip
            go_enter Tryz.func69, Tryz.ntmps69
            go_wp2_with (first | (go_at_call 90; refine (l01Entry_c _ _).mono ?_; rintro e w1 ⟨rfl, rfl⟩) | (go_at_call 93; refine (l01In_c _ _ _ _).mono ?_; rintro e w1 ⟨rfl, rfl⟩) | (go_at_call 114; refine (l01Gcd_c p q _ (by omega) (by omega) (by omega) (by omega)).mono ?_; rintro e w1 ⟨rfl, rfl⟩))
            all_goals (go_returns; exact ⟨ret_bool (by first | (simp [*]; done) | grind), (by repeat' (first | (with_reducible exact Below.refl _ _) | (with_reducible assumption) | (with_reducible refine below_drewN ?_ _) | (with_reducible refine Below.drew ?_) | (with_reducible refine Below.alloc ?_ ?_ _) | (with_reducible refine Below.setCell ?_ ?_ _) | (with_reducible refine Below.trans ?_ (Below.mono (by with_reducible assumption) ?_)) | go_size | (dsimp only; omega)))⟩)
        · have hg1 : ((Int.gcd p q : Int) == 1) = false := by simpa using (show ¬ ((Int.gcd p q : Int) = 1) by omega)
          go_enter Tryz.func69, Tryz.ntmps69
          go_wp2_with (first | (go_at_call 90; refine (l01Entry_c _ _).mono ?_; rintro e w1 ⟨rfl, rfl⟩) | (go_at_call 93; refine (l01In_c _ _ _ _).mono ?_; rintro e w1 ⟨rfl, rfl⟩) | (go_at_call 114; refine (l01Gcd_c p q _ (by omega) (by omega) (by omega) (by omega)).mono ?_; rintro e w1 ⟨rfl, rfl⟩))
          all_goals (go_returns; exact ⟨ret_bool (by first | (simp [*]; done) | grind), (by repeat' (first | (with_reducible exact Below.refl _ _) | (with_reducible assumption) | (with_reducible refine below_drewN ?_ _) | (with_reducible refine Below.drew ?_) | (with_reducible refine Below.alloc ?_ ?_ _) | (with_reducible refine Below.setCell ?_ ?_ _) | (with_reducible refine Below.trans ?_ (Below.mono (by with_reducible assumption) ?_)) | go_size | (dsimp only; omega)))⟩)
      · skip
        go_enter Tryz.func69, Tryz.ntmps69
        go_wp2_with (first | (go_at_call 90; refine (l01Entry_c _ _).mono ?_; rintro e w1 ⟨rfl, rfl⟩) | (go_at_call 93; refine (l01In_c _ _ _ _).mono ?_; rintro e w1 ⟨rfl, rfl⟩) | (go_at_call 114; refine (l01Gcd_c p q _ (by omega) (by omega) (by omega) (by omega)).mono ?_; rintro e w1 ⟨rfl, rfl⟩))
        all_goals (go_returns; exact ⟨ret_bool (by first | (simp [*]; done) | grind), (by repeat' (first | (with_reducible exact Below.refl _ _) | (with_reducible assumption) | (with_reducible refine below_drewN ?_ _) | (with_reducible refine Below.drew ?_) | (with_reducible refine Below.alloc ?_ ?_ _) | (with_reducible refine Below.setCell ?_ ?_ _) | (with_reducible refine Below.trans ?_ (Below.mono (by with_reducible assumption) ?_)) | go_size | (dsimp only; omega)))⟩)
    · have hx : isF p q = false := by simp [isF, he, ent, hq1]
      rw [hx]
      clear hx
      go_enter Tryz.func69, Tryz.ntmps69
      go_wp2_with (first | (go_at_call 90; refine (l01Entry_c _ _).mono ?_; rintro e w1 ⟨rfl, rfl⟩) | (go_at_call 93; refine (l01In_c _ _ _ _).mono ?_; rintro e w1 ⟨rfl, rfl⟩))
      all_goals (go_returns; exact ⟨ret_bool (by first | (simp [*]; done) | grind), (by repeat' (first | (with_reducible exact Below.refl _ _) | (with_reducible assumption) | (with_reducible refine below_drewN ?_ _) | (with_reducible refine Below.drew ?_) | (with_reducible refine Below.alloc ?_ ?_ _) | (with_reducible refine Below.setCell ?_ ?_ _) | (with_reducible refine Below.trans ?_ (Below.mono (by with_reducible assumption) ?_)) | go_size | (dsimp only; omega)))⟩)
/-- the first and the second number of the fraction that two numbers make -/
def redP (p q : Int) : Int := if q < 0 ∨ (q = 0 ∧ p < 0) then -(p / (Int.gcd p q : Int)) else p / (Int.gcd p q : Int)
def redQ (p q : Int) : Int := if q < 0 ∨ (q = 0 ∧ p < 0) then -(q / (Int.gcd p q : Int)) else q / (Int.gcd p q : Int)
theorem gcd_bd (p q : Int) (A : Int) (hp0 : -A ≤ p) (hp1 : p ≤ A) (hq0 : -A ≤ q) (hq1 : q ≤ A) : (Int.gcd p q : Int) ≤ A := by
  rcases Int.le_total 0 A with hA | hA
  · by_cases h : q = 0
    · subst h; simp; omega
    · have := Int.gcd_le_natAbs_right (a := p) h
      omega
  · have h1 : p = 0 := by omega
    have h2 : q = 0 := by omega
    subst h1 h2; simp; omega
theorem tdiv_bd (p d : Int) (A : Int) (hp0 : -A ≤ p) (hp1 : p ≤ A) : -A ≤ p.tdiv d ∧ p.tdiv d ≤ A := by
  have h : (p.tdiv d).natAbs ≤ p.natAbs := by rw [Int.natAbs_tdiv]; exact Nat.div_le_self _ _
  omega
theorem tdiv_gl (p q : Int) : p.tdiv (Int.gcd p q : Int) = p / (Int.gcd p q : Int) := Int.tdiv_eq_ediv_of_dvd (Int.gcd_dvd_left ..)
theorem tdiv_gr (p q : Int) : q.tdiv (Int.gcd p q : Int) = q / (Int.gcd p q : Int) := Int.tdiv_eq_ediv_of_dvd (Int.gcd_dvd_right ..)
theorem ret_q {a b c d : Int} (h : a = b) (h' : c = d) : Ending.returned (.agg #[.int .i64 a, .int .i64 c]) = .returned (.agg #[.int .i64 b, .int .i64 d]) := by rw [h, h']
set_option maxHeartbeats 1000000 in
theorem l01Reduced_c (p q : Int) (w : World) (hp0 : -4611686018427387904 ≤ p) (hp1 : p ≤ 4611686018427387904) (hq0 : -4611686018427387904 ≤ q) (hq1 : q ≤ 4611686018427387904) (hz : ¬ (p = 0 ∧ q = 0)) :
    Calls Tryz.prog 85 #[.int .i64 p, .int .i64 q] w fun e w' => e = .returned (.agg #[.int .i64 (redP p q), .int .i64 (redQ p q)]) ∧ Below w.heap.size w w' := by
  have hg0 : 0 < (Int.gcd p q : Int) := by
    have : Int.gcd p q ≠ 0 := by rw [Ne, Int.gcd_eq_zero_iff]; exact hz
    omega
  have hg1 := gcd_bd p q _ hp0 hp1 hq0 hq1
  obtain ⟨d0, d1⟩ := tdiv_bd p (Int.gcd p q : Int) _ hp0 hp1
  obtain ⟨d2, d3⟩ := tdiv_bd q (Int.gcd p q : Int) _ hq0 hq1
  have f0 := tdiv_gl p q
  have f1 := tdiv_gr p q
  have F0 := Lib.hid f0
  have F1 := Lib.hid f1
  clear f0 f1 hz
  have n0 : ¬ (Int.gcd p q : Int) = 0 := by omega
  have n1 : ((Int.gcd p q : Int) == 0) = false := by simpa using n0
  have m0 : ¬ (-(Int.gcd p q : Int)) = 0 := by omega
  have m1 : (-(Int.gcd p q : Int) == 0) = false := by simpa using m0
  by_cases hq : q < 0
  · have r0 : redP p q = -(p / (Int.gcd p q : Int)) := by rw [redP, if_pos (.inl hq)]
    have r1 : redQ p q = -(q / (Int.gcd p q : Int)) := by rw [redQ, if_pos (.inl hq)]
    rw [r0, r1]
    clear r0 r1
    go_enter Tryz.func85, Tryz.ntmps85
    go_wp2_with fail
    refine (l01Gcd_c p q _ (by omega) (by omega) (by omega) (by omega)).mono ?_
    rintro e w1 ⟨rfl, rfl⟩
    go_wp2
    go_region
    all_goals (go_wp2; go_returns; exact ⟨ret_q (by first | rfl | rw [F0.out] | simp [F0.out]) (by first | rfl | rw [F1.out] | simp [F1.out]), (by repeat' (first | (with_reducible exact Below.refl _ _) | (with_reducible assumption) | (with_reducible refine below_drewN ?_ _) | (with_reducible refine Below.drew ?_) | (with_reducible refine Below.alloc ?_ ?_ _) | (with_reducible refine Below.setCell ?_ ?_ _) | (with_reducible refine Below.trans ?_ (Below.mono (by with_reducible assumption) ?_)) | go_size | (dsimp only; omega)))⟩)
  · by_cases hqz : q = 0
    · by_cases hpz : p < 0
      · have r0 : redP p q = -(p / (Int.gcd p q : Int)) := by rw [redP, if_pos (.inr ⟨hqz, hpz⟩)]
        have r1 : redQ p q = -(q / (Int.gcd p q : Int)) := by rw [redQ, if_pos (.inr ⟨hqz, hpz⟩)]
        rw [r0, r1]
        clear r0 r1
        have z0 : (q == 0) = true := by simpa using hqz
        clear hqz
        go_enter Tryz.func85, Tryz.ntmps85
        go_wp2_with fail
        refine (l01Gcd_c p q _ (by omega) (by omega) (by omega) (by omega)).mono ?_
        rintro e w1 ⟨rfl, rfl⟩
        go_wp2
        go_region
        all_goals (go_wp2; go_returns; exact ⟨ret_q (by first | rfl | rw [F0.out] | simp [F0.out]) (by first | rfl | rw [F1.out] | simp [F1.out]), (by repeat' (first | (with_reducible exact Below.refl _ _) | (with_reducible assumption) | (with_reducible refine below_drewN ?_ _) | (with_reducible refine Below.drew ?_) | (with_reducible refine Below.alloc ?_ ?_ _) | (with_reducible refine Below.setCell ?_ ?_ _) | (with_reducible refine Below.trans ?_ (Below.mono (by with_reducible assumption) ?_)) | go_size | (dsimp only; omega)))⟩)
      · have r0 : redP p q = p / (Int.gcd p q : Int) := by rw [redP, if_neg (by omega)]
        have r1 : redQ p q = q / (Int.gcd p q : Int) := by rw [redQ, if_neg (by omega)]
        rw [r0, r1]
        clear r0 r1
        have z0 : (q == 0) = true := by simpa using hqz
        clear hqz
        go_enter Tryz.func85, Tryz.ntmps85
        go_wp2_with fail
        refine (l01Gcd_c p q _ (by omega) (by omega) (by omega) (by omega)).mono ?_
        rintro e w1 ⟨rfl, rfl⟩
        go_wp2
        go_region
        all_goals (go_wp2; go_returns; exact ⟨ret_q (by first | rfl | rw [F0.out] | simp [F0.out]) (by first | rfl | rw [F1.out] | simp [F1.out]), (by repeat' (first | (with_reducible exact Below.refl _ _) | (with_reducible assumption) | (with_reducible refine below_drewN ?_ _) | (with_reducible refine Below.drew ?_) | (with_reducible refine Below.alloc ?_ ?_ _) | (with_reducible refine Below.setCell ?_ ?_ _) | (with_reducible refine Below.trans ?_ (Below.mono (by with_reducible assumption) ?_)) | go_size | (dsimp only; omega)))⟩)
    · have r0 : redP p q = p / (Int.gcd p q : Int) := by rw [redP, if_neg (by omega)]
      have r1 : redQ p q = q / (Int.gcd p q : Int) := by rw [redQ, if_neg (by omega)]
      rw [r0, r1]
      clear r0 r1
      have z0 : (q == 0) = false := by simpa using hqz
      go_enter Tryz.func85, Tryz.ntmps85
      go_wp2_with fail
      refine (l01Gcd_c p q _ (by omega) (by omega) (by omega) (by omega)).mono ?_
      rintro e w1 ⟨rfl, rfl⟩
      go_wp2
      go_region
      all_goals (go_wp2; go_returns; exact ⟨ret_q (by first | rfl | rw [F0.out] | simp [F0.out]) (by first | rfl | rw [F1.out] | simp [F1.out]), (by repeat' (first | (with_reducible exact Below.refl _ _) | (with_reducible assumption) | (with_reducible refine below_drewN ?_ _) | (with_reducible refine Below.drew ?_) | (with_reducible refine Below.alloc ?_ ?_ _) | (with_reducible refine Below.setCell ?_ ?_ _) | (with_reducible refine Below.trans ?_ (Below.mono (by with_reducible assumption) ?_)) | go_size | (dsimp only; omega)))⟩)
theorem ret_q0 {a b c d e : Int} (h : a = b) (h' : c = d) : Ending.returned (.tuple #[.agg #[.int .i64 a, .int .i64 c], .int .i64 e]) = .returned (.tuple #[.agg #[.int .i64 b, .int .i64 d], .int .i64 e]) := by rw [h, h']
set_option maxHeartbeats 2000000 in
theorem fraction_no (p q : Int) (w : World) (hp0 : -4611686018427387904 ≤ p) (hp1 : p ≤ 4611686018427387904) (hq0 : -4611686018427387904 ≤ q) (hq1 : q ≤ 4611686018427387904) (hz : ¬ (p = 0 ∧ q = 0)) (hent : (ent (redP p q) && ent (redQ p q)) = false) :
    Calls Tryz.prog 67 #[.int .i64 p, .int .i64 q] w fun e w' => e = .returned (.tuple #[.agg #[.int .i64 0, .int .i64 0], .int .i64 3]) ∧ Below w.heap.size w w' := by
  have hg0 : 0 < (Int.gcd p q : Int) := by
    have : Int.gcd p q ≠ 0 := by rw [Ne, Int.gcd_eq_zero_iff]; exact hz
    omega
  have hg1 := gcd_bd p q _ hp0 hp1 hq0 hq1
  obtain ⟨d0, d1⟩ := tdiv_bd p (Int.gcd p q : Int) _ hp0 hp1
  obtain ⟨d2, d3⟩ := tdiv_bd q (Int.gcd p q : Int) _ hq0 hq1
  have f0 := tdiv_gl p q
  have f1 := tdiv_gr p q
  have F0 := Lib.hid f0
  have F1 := Lib.hid f1
  clear f0 f1 hz
  have n0 : ¬ (Int.gcd p q : Int) = 0 := by omega
  have n1 : ((Int.gcd p q : Int) == 0) = false := by simpa using n0
  have m0 : ¬ (-(Int.gcd p q : Int)) = 0 := by omega
  have m1 : (-(Int.gcd p q : Int) == 0) = false := by simpa using m0
  by_cases hq : q < 0
  · have r0 : redP p q = -(p / (Int.gcd p q : Int)) := by rw [redP, if_pos (.inl hq)]
    have r1 : redQ p q = -(q / (Int.gcd p q : Int)) := by rw [redQ, if_pos (.inl hq)]
    rw [r0, r1] at hent
    have H := Lib.hid hent
    clear r0 r1 hent
    go_enter Tryz.func67, Tryz.ntmps67
    go_wp2_with fail
    refine (divisor_c p q _ (by omega) (by omega) (by omega) (by omega)).mono ?_
    rintro e w1 ⟨rfl, nd, rfl⟩
    go_wp2
    go_region
    go_wp2_with fail
    refine (areEntries_2 _ (-p.tdiv (Int.gcd p q : Int)) (-q.tdiv (Int.gcd p q : Int)) _ (by go_cell) (by go_cell)).mono ?_
    rintro e w2 ⟨rfl, rfl⟩
    rw [F0.out, F1.out]
    rw [H.out]
    go_wp2
    go_returns
    exact ⟨rfl, (by repeat' (first | (with_reducible exact Below.refl _ _) | (with_reducible assumption) | (with_reducible refine below_drewN ?_ _) | (with_reducible refine Below.drew ?_) | (with_reducible refine Below.alloc ?_ ?_ _) | (with_reducible refine Below.setCell ?_ ?_ _) | (with_reducible refine Below.trans ?_ (Below.mono (by with_reducible assumption) ?_)) | go_size | (dsimp only; omega)))⟩
  · by_cases hqz : q = 0
    · by_cases hpz : p < 0
      · have r0 : redP p q = -(p / (Int.gcd p q : Int)) := by rw [redP, if_pos (.inr ⟨hqz, hpz⟩)]
        have r1 : redQ p q = -(q / (Int.gcd p q : Int)) := by rw [redQ, if_pos (.inr ⟨hqz, hpz⟩)]
        rw [r0, r1] at hent
        have H := Lib.hid hent
        clear r0 r1 hent
        have z0 : (q == 0) = true := by simpa using hqz
        clear hqz
        go_enter Tryz.func67, Tryz.ntmps67
        go_wp2_with fail
        refine (divisor_c p q _ (by omega) (by omega) (by omega) (by omega)).mono ?_
        rintro e w1 ⟨rfl, nd, rfl⟩
        go_wp2
        go_region
        go_wp2_with fail
        refine (areEntries_2 _ (-p.tdiv (Int.gcd p q : Int)) (-q.tdiv (Int.gcd p q : Int)) _ (by go_cell) (by go_cell)).mono ?_
        rintro e w2 ⟨rfl, rfl⟩
        rw [F0.out, F1.out]
        rw [H.out]
        go_wp2
        go_returns
        exact ⟨rfl, (by repeat' (first | (with_reducible exact Below.refl _ _) | (with_reducible assumption) | (with_reducible refine below_drewN ?_ _) | (with_reducible refine Below.drew ?_) | (with_reducible refine Below.alloc ?_ ?_ _) | (with_reducible refine Below.setCell ?_ ?_ _) | (with_reducible refine Below.trans ?_ (Below.mono (by with_reducible assumption) ?_)) | go_size | (dsimp only; omega)))⟩
      · have r0 : redP p q = p / (Int.gcd p q : Int) := by rw [redP, if_neg (by omega)]
        have r1 : redQ p q = q / (Int.gcd p q : Int) := by rw [redQ, if_neg (by omega)]
        rw [r0, r1] at hent
        have H := Lib.hid hent
        clear r0 r1 hent
        have z0 : (q == 0) = true := by simpa using hqz
        clear hqz
        go_enter Tryz.func67, Tryz.ntmps67
        go_wp2_with fail
        refine (divisor_c p q _ (by omega) (by omega) (by omega) (by omega)).mono ?_
        rintro e w1 ⟨rfl, nd, rfl⟩
        go_wp2
        go_region
        go_wp2_with fail
        refine (areEntries_2 _ (p.tdiv (Int.gcd p q : Int)) (q.tdiv (Int.gcd p q : Int)) _ (by go_cell) (by go_cell)).mono ?_
        rintro e w2 ⟨rfl, rfl⟩
        rw [F0.out, F1.out]
        rw [H.out]
        go_wp2
        go_returns
        exact ⟨rfl, (by repeat' (first | (with_reducible exact Below.refl _ _) | (with_reducible assumption) | (with_reducible refine below_drewN ?_ _) | (with_reducible refine Below.drew ?_) | (with_reducible refine Below.alloc ?_ ?_ _) | (with_reducible refine Below.setCell ?_ ?_ _) | (with_reducible refine Below.trans ?_ (Below.mono (by with_reducible assumption) ?_)) | go_size | (dsimp only; omega)))⟩
    · have r0 : redP p q = p / (Int.gcd p q : Int) := by rw [redP, if_neg (by omega)]
      have r1 : redQ p q = q / (Int.gcd p q : Int) := by rw [redQ, if_neg (by omega)]
      rw [r0, r1] at hent
      have H := Lib.hid hent
      clear r0 r1 hent
      have z0 : (q == 0) = false := by simpa using hqz
      go_enter Tryz.func67, Tryz.ntmps67
      go_wp2_with fail
      refine (divisor_c p q _ (by omega) (by omega) (by omega) (by omega)).mono ?_
      rintro e w1 ⟨rfl, nd, rfl⟩
      go_wp2
      go_region
      go_wp2_with fail
      refine (areEntries_2 _ (p.tdiv (Int.gcd p q : Int)) (q.tdiv (Int.gcd p q : Int)) _ (by go_cell) (by go_cell)).mono ?_
      rintro e w2 ⟨rfl, rfl⟩
      rw [F0.out, F1.out]
      rw [H.out]
      go_wp2
      go_returns
      exact ⟨rfl, (by repeat' (first | (with_reducible exact Below.refl _ _) | (with_reducible assumption) | (with_reducible refine below_drewN ?_ _) | (with_reducible refine Below.drew ?_) | (with_reducible refine Below.alloc ?_ ?_ _) | (with_reducible refine Below.setCell ?_ ?_ _) | (with_reducible refine Below.trans ?_ (Below.mono (by with_reducible assumption) ?_)) | go_size | (dsimp only; omega)))⟩
set_option maxHeartbeats 2000000 in
theorem fraction_yes (p q : Int) (w : World) (hp0 : -4611686018427387904 ≤ p) (hp1 : p ≤ 4611686018427387904) (hq0 : -4611686018427387904 ≤ q) (hq1 : q ≤ 4611686018427387904) (hz : ¬ (p = 0 ∧ q = 0)) (hent : (ent (redP p q) && ent (redQ p q)) = true) :
    Calls Tryz.prog 67 #[.int .i64 p, .int .i64 q] w fun e w' => e = .returned (.tuple #[.agg #[.int .i64 (redP p q), .int .i64 (redQ p q)], .int .i64 0]) ∧ Below w.heap.size w w' := by
  have hg0 : 0 < (Int.gcd p q : Int) := by
    have : Int.gcd p q ≠ 0 := by rw [Ne, Int.gcd_eq_zero_iff]; exact hz
    omega
  have hg1 := gcd_bd p q _ hp0 hp1 hq0 hq1
  obtain ⟨d0, d1⟩ := tdiv_bd p (Int.gcd p q : Int) _ hp0 hp1
  obtain ⟨d2, d3⟩ := tdiv_bd q (Int.gcd p q : Int) _ hq0 hq1
  have f0 := tdiv_gl p q
  have f1 := tdiv_gr p q
  have F0 := Lib.hid f0
  have F1 := Lib.hid f1
  clear f0 f1 hz
  have n0 : ¬ (Int.gcd p q : Int) = 0 := by omega
  have n1 : ((Int.gcd p q : Int) == 0) = false := by simpa using n0
  have m0 : ¬ (-(Int.gcd p q : Int)) = 0 := by omega
  have m1 : (-(Int.gcd p q : Int) == 0) = false := by simpa using m0
  by_cases hq : q < 0
  · have r0 : redP p q = -(p / (Int.gcd p q : Int)) := by rw [redP, if_pos (.inl hq)]
    have r1 : redQ p q = -(q / (Int.gcd p q : Int)) := by rw [redQ, if_pos (.inl hq)]
    rw [r0, r1] at hent ⊢
    have H := Lib.hid hent
    clear r0 r1 hent
    go_enter Tryz.func67, Tryz.ntmps67
    go_wp2_with fail
    refine (divisor_c p q _ (by omega) (by omega) (by omega) (by omega)).mono ?_
    rintro e w1 ⟨rfl, nd, rfl⟩
    go_wp2
    go_region
    go_wp2_with fail
    refine (areEntries_2 _ (-p.tdiv (Int.gcd p q : Int)) (-q.tdiv (Int.gcd p q : Int)) _ (by go_cell) (by go_cell)).mono ?_
    rintro e w2 ⟨rfl, rfl⟩
    rw [F0.out, F1.out]
    rw [H.out]
    go_wp2
    go_returns
    exact ⟨ret_q0 (by first | rfl | rw [F0.out] | simp [F0.out]) (by first | rfl | rw [F1.out] | simp [F1.out]), (by repeat' (first | (with_reducible exact Below.refl _ _) | (with_reducible assumption) | (with_reducible refine below_drewN ?_ _) | (with_reducible refine Below.drew ?_) | (with_reducible refine Below.alloc ?_ ?_ _) | (with_reducible refine Below.setCell ?_ ?_ _) | (with_reducible refine Below.trans ?_ (Below.mono (by with_reducible assumption) ?_)) | go_size | (dsimp only; omega)))⟩
  · by_cases hqz : q = 0
    · by_cases hpz : p < 0
      · have r0 : redP p q = -(p / (Int.gcd p q : Int)) := by rw [redP, if_pos (.inr ⟨hqz, hpz⟩)]
        have r1 : redQ p q = -(q / (Int.gcd p q : Int)) := by rw [redQ, if_pos (.inr ⟨hqz, hpz⟩)]
        rw [r0, r1] at hent ⊢
        have H := Lib.hid hent
        clear r0 r1 hent
        have z0 : (q == 0) = true := by simpa using hqz
        clear hqz
        go_enter Tryz.func67, Tryz.ntmps67
        go_wp2_with fail
        refine (divisor_c p q _ (by omega) (by omega) (by omega) (by omega)).mono ?_
        rintro e w1 ⟨rfl, nd, rfl⟩
        go_wp2
        go_region
        go_wp2_with fail
        refine (areEntries_2 _ (-p.tdiv (Int.gcd p q : Int)) (-q.tdiv (Int.gcd p q : Int)) _ (by go_cell) (by go_cell)).mono ?_
        rintro e w2 ⟨rfl, rfl⟩
        rw [F0.out, F1.out]
        rw [H.out]
        go_wp2
        go_returns
        exact ⟨ret_q0 (by first | rfl | rw [F0.out] | simp [F0.out]) (by first | rfl | rw [F1.out] | simp [F1.out]), (by repeat' (first | (with_reducible exact Below.refl _ _) | (with_reducible assumption) | (with_reducible refine below_drewN ?_ _) | (with_reducible refine Below.drew ?_) | (with_reducible refine Below.alloc ?_ ?_ _) | (with_reducible refine Below.setCell ?_ ?_ _) | (with_reducible refine Below.trans ?_ (Below.mono (by with_reducible assumption) ?_)) | go_size | (dsimp only; omega)))⟩
      · have r0 : redP p q = p / (Int.gcd p q : Int) := by rw [redP, if_neg (by omega)]
        have r1 : redQ p q = q / (Int.gcd p q : Int) := by rw [redQ, if_neg (by omega)]
        rw [r0, r1] at hent ⊢
        have H := Lib.hid hent
        clear r0 r1 hent
        have z0 : (q == 0) = true := by simpa using hqz
        clear hqz
        go_enter Tryz.func67, Tryz.ntmps67
        go_wp2_with fail
        refine (divisor_c p q _ (by omega) (by omega) (by omega) (by omega)).mono ?_
        rintro e w1 ⟨rfl, nd, rfl⟩
        go_wp2
        go_region
        go_wp2_with fail
        refine (areEntries_2 _ (p.tdiv (Int.gcd p q : Int)) (q.tdiv (Int.gcd p q : Int)) _ (by go_cell) (by go_cell)).mono ?_
        rintro e w2 ⟨rfl, rfl⟩
        rw [F0.out, F1.out]
        rw [H.out]
        go_wp2
        go_returns
        exact ⟨ret_q0 (by first | rfl | rw [F0.out] | simp [F0.out]) (by first | rfl | rw [F1.out] | simp [F1.out]), (by repeat' (first | (with_reducible exact Below.refl _ _) | (with_reducible assumption) | (with_reducible refine below_drewN ?_ _) | (with_reducible refine Below.drew ?_) | (with_reducible refine Below.alloc ?_ ?_ _) | (with_reducible refine Below.setCell ?_ ?_ _) | (with_reducible refine Below.trans ?_ (Below.mono (by with_reducible assumption) ?_)) | go_size | (dsimp only; omega)))⟩
    · have r0 : redP p q = p / (Int.gcd p q : Int) := by rw [redP, if_neg (by omega)]
      have r1 : redQ p q = q / (Int.gcd p q : Int) := by rw [redQ, if_neg (by omega)]
      rw [r0, r1] at hent ⊢
      have H := Lib.hid hent
      clear r0 r1 hent
      have z0 : (q == 0) = false := by simpa using hqz
      go_enter Tryz.func67, Tryz.ntmps67
      go_wp2_with fail
      refine (divisor_c p q _ (by omega) (by omega) (by omega) (by omega)).mono ?_
      rintro e w1 ⟨rfl, nd, rfl⟩
      go_wp2
      go_region
      go_wp2_with fail
      refine (areEntries_2 _ (p.tdiv (Int.gcd p q : Int)) (q.tdiv (Int.gcd p q : Int)) _ (by go_cell) (by go_cell)).mono ?_
      rintro e w2 ⟨rfl, rfl⟩
      rw [F0.out, F1.out]
      rw [H.out]
      go_wp2
      go_returns
      exact ⟨ret_q0 (by first | rfl | rw [F0.out] | simp [F0.out]) (by first | rfl | rw [F1.out] | simp [F1.out]), (by repeat' (first | (with_reducible exact Below.refl _ _) | (with_reducible assumption) | (with_reducible refine below_drewN ?_ _) | (with_reducible refine Below.drew ?_) | (with_reducible refine Below.alloc ?_ ?_ _) | (with_reducible refine Below.setCell ?_ ?_ _) | (with_reducible refine Below.trans ?_ (Below.mono (by with_reducible assumption) ?_)) | go_size | (dsimp only; omega)))⟩
end Go.Proofs.YtlkhhpckgcdeeaaGreatDoor
