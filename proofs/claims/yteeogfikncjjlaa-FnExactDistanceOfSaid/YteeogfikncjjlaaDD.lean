/- DistanceOf: the program's walks. -/
import Derived.Test.YteeogfikncjjlaaDC
import Derived.Test.YteeogfikncjjlaaAH
import Derived.Test.YteeogfikncjjlaaH
import Derived.Test.YteeogfikncjjlaaW
namespace Go.Proofs.Yteeogfikncjjlaa
open Go.RowKit
open Plain
set_option linter.unusedVariables false
set_option linter.unusedSimpArgs false
theorem small_mul {a b A B : Int} (ha : -A ≤ a ∧ a ≤ A) (hb : -B ≤ b ∧ b ≤ B) : -(A * B) ≤ a * b ∧ a * b ≤ A * B := by
  have h1 : (a * b).natAbs ≤ A.natAbs * B.natAbs := by rw [Int.natAbs_mul]; exact Nat.mul_le_mul (by omega) (by omega)
  have hA : 0 ≤ A := by omega
  have hB : 0 ≤ B := by omega
  have e : ((A.natAbs * B.natAbs : Nat) : Int) = A * B := by
    rw [Int.natCast_mul, Int.natAbs_of_nonneg hA, Int.natAbs_of_nonneg hB]
  omega
set_option maxHeartbeats 2000000 in
theorem bezout_c (p q : Int) (w : World) (hp : -10000 ≤ p ∧ p ≤ 10000) (hq : 0 ≤ q ∧ q ≤ 10000) (hg : Int.gcd p q = 1) :
    Calls Try.prog 14 #[.int .i64 p, .int .i64 q] w fun e w' => ∃ r s : Int, e = .returned (.tuple #[.int .i64 r, .int .i64 s]) ∧ p * s - q * r = 1 ∧ (-10001 ≤ r ∧ r ≤ 10001) ∧ (-10001 ≤ s ∧ s ≤ 10001) ∧ w = w' := by
  have HS := Lib.hid (Bz.start hq.1 hg)
  clear hg
  go_enter Try.func14, Try.ntmps14
  go_wp2
  go_loopw [0, 1, 6, 7, 8, 9] (fun x y va vb vc vd wr => ∃ (P Q a b c d : Int), x = .int .i64 P ∧ y = .int .i64 Q ∧ va = .int .i64 a ∧ vb = .int .i64 b ∧ vc = .int .i64 c ∧ vd = .int .i64 d ∧ Hid (Bz p q P Q a b c d) ∧ (-10000 ≤ P ∧ P ≤ 10000) ∧ (-10000 ≤ Q ∧ Q ≤ 10000) ∧ (-10001 ≤ a ∧ a ≤ 10001) ∧ (-10001 ≤ b ∧ b ≤ 10001) ∧ (-10001 ≤ c ∧ c ≤ 10001) ∧ (-10001 ≤ d ∧ d ≤ 10001) ∧ w = wr) (fun x y va vb vc vd wr => (intOf y).natAbs)
  case atStart => exact ⟨p, q, 1, 0, 0, 1, rfl, rfl, rfl, rfl, rfl, rfl, HS, hp, by omega, by omega, by omega, by omega, by omega, rfl⟩
  case round =>
    obtain ⟨P, Q, a, b, c, d, rfl, rfl, rfl, rfl, rfl, rfl, HB, hP, hQ, ha, hb, hc, hd, rfl⟩ := hrel
    by_cases hz : Q = 0
    · subst hz
      obtain ⟨h1, h2⟩ := HB.out.done
      have H2 := Lib.hid h2
      have hr : -10001 ≤ -b * P ∧ -b * P ≤ 10001 := by rcases h1 with rfl | rfl <;> omega
      have hs : -10001 ≤ a * P ∧ a * P ≤ 10001 := by rcases h1 with rfl | rfl <;> omega
      clear h2 h1
      go_wp2
      go_returns
      exact ⟨_, _, rfl, H2.out, hr, hs, rfl⟩
    · have hz' : (Q == 0) = false := by simpa using hz
      have hz'' : (Q != 0) = true := by simpa using hz
      have HN := HB.out.step hz
      obtain ⟨b1, b2⟩ := HN.bd hz
      obtain ⟨t0, t1⟩ := tdiv_bd2 P Q 10000 hP.1 hP.2
      have hm : P - P.tdiv Q * Q = P.tmod Q := by have := Int.mul_tdiv_add_tmod P Q; rw [Int.mul_comm] at this; omega
      have hml : (P.tmod Q).natAbs < Q.natAbs := by
        have := Int.tmod_lt_of_pos P (show 0 < (Q.natAbs : Int) by omega)
        rcases Int.lt_or_gt_of_ne hz with h | h
        · have e : (Q.natAbs : Int) = -Q := by omega
          rw [e, Int.tmod_neg] at this
          have h2 := Int.lt_tmod_of_pos P (show 0 < -Q by omega)
          rw [Int.tmod_neg] at h2
          omega
        · have h2 := Int.lt_tmod_of_pos P h
          have e : (Q.natAbs : Int) = Q := by omega
          rw [e] at this
          omega
      rw [hm] at HN
      have HM := Lib.hid hm
      generalize hR : P.tmod Q = R at *
      have hm2 : P.tdiv Q * Q = P - R := by have := HM.out; omega
      clear hm
      generalize hn : P.tdiv Q = n at *
      have hc2 : n * c = a - (a - n * c) := by omega
      have hd2 : n * d = b - (b - n * d) := by omega
      obtain ⟨c', hc'⟩ : ∃ x, a - n * c = x := ⟨_, rfl⟩
      obtain ⟨d', hd'⟩ : ∃ x, b - n * d = x := ⟨_, rfl⟩
      rw [hc'] at HN b1 hc2
      rw [hd'] at HN b2 hd2
      have HNN := Lib.hid HN
      have HHC := Lib.hid hc'
      have HHD := Lib.hid hd'
      have HHM := Lib.hid hm2
      have hm3 : -20000 ≤ n * Q ∧ n * Q ≤ 20000 := by omega
      have hc3 : -20002 ≤ n * c ∧ n * c ≤ 20002 := by omega
      have hd3 : -20002 ≤ n * d ∧ n * d ≤ 20002 := by omega
      clear HN hc' hd' hm2 hc2 hd2 hR
      go_wp2
      exact ⟨⟨Q, R, c, d, c', d', rfl, by rw [HM.out], rfl, rfl, by rw [HHC.out], by rw [HHD.out], HNN, hQ, by omega, hc, hd, by omega, by omega, trivial⟩, by rw [HM.out]; simpa [intOf] using hml⟩
theorem near_q {p q : Int} {n : Nat} (h : Near p q n) (hq : q ≠ 0) : ∃ m, n = m + 1 ∧ Near q ((p - flo (2 * p + q) (2 * q) * q).natAbs : Int) m := by
  cases h with
  | stop => exact absurd rfl hq
  | step _ _ m _ h2 => exact ⟨m, rfl, h2⟩
theorem near_z {p : Int} {n : Nat} (h : Near p 0 n) : n = 0 := by
  cases h with
  | stop => rfl
  | step _ _ _ hq _ => exact absurd rfl hq
theorem near_len : ∀ (n : Nat) (p q : Int), Near p q n → (n : Int) ≤ q.natAbs + 1
  | 0, p, q, _ => by omega
  | n + 1, p, q, h => by
    cases h with
    | step _ _ _ hq h2 =>
    have h3 := near_len n _ _ h2
    match n, h2 with
    | 0, _ => omega
    | n + 1, h2 =>
    have hb : 2 * (p - flo (2 * p + q) (2 * q) * q) ≤ q.natAbs ∧ -(q.natAbs : Int) ≤ 2 * (p - flo (2 * p + q) (2 * q) * q) := by
      have := round_bd p q hq
      omega
    have hnz : p - flo (2 * p + q) (2 * q) * q ≠ 0 := by
      intro e
      rw [e] at h2
      have := near_z h2
      omega
    omega
set_option maxHeartbeats 2000000 in
theorem fromInfinity_c (p q : Int) (n : Nat) (w : World) (hp : -1000000000 ≤ p ∧ p ≤ 1000000000) (hq : -1000000000 ≤ q ∧ q ≤ 1000000000) (hn : Near p q n) :
    Calls Try.prog 15 #[.int .i64 p, .int .i64 q] w fun e w' => e = .returned (.int .i64 n) ∧ w = w' := by
  have hnl := near_len n p q hn
  have HS := Lib.hid hn
  clear hn
  go_enter Try.func15, Try.ntmps15
  go_wp2
  go_loopw [0, 1, 5] (fun x y k wr => ∃ (P Q : Int) (m j : Nat), x = .int .i64 P ∧ y = .int .i64 Q ∧ k = .int .i64 j ∧ j + m = n ∧ Hid (Near P Q m) ∧ (-1000000000 ≤ P ∧ P ≤ 1000000000) ∧ (-1000000000 ≤ Q ∧ Q ≤ 1000000000) ∧ w = wr) (fun x y k wr => (intOf y).natAbs)
  case atStart => exact ⟨p, q, n, 0, rfl, rfl, rfl, by omega, HS, hp, hq, rfl⟩
  case round =>
    obtain ⟨P, Q, m, j, rfl, rfl, rfl, hjm, HN, hP, hQ, rfl⟩ := hrel
    by_cases hz : Q = 0
    · subst hz
      have := near_z HN.out
      obtain rfl : j = n := by omega
      go_wp2
      go_returns
      exact ⟨rfl, rfl⟩
    · have hz' : (Q == 0) = false := by simpa using hz
      have hz'' : (Q != 0) = true := by simpa using hz
      obtain ⟨m', hm', h2⟩ := near_q HN.out hz
      have hb := round_bd P Q hz
      obtain ⟨f0, f1⟩ := flo_bd (2 * P + Q) (2 * Q) (by omega) (by omega)
      generalize hf : flo (2 * P + Q) (2 * Q) = f at *
      have HF := Lib.hid hf
      obtain ⟨R, hR⟩ : ∃ R, P - f * Q = R := ⟨_, rfl⟩
      have hfQ : f * Q = P - R := by omega
      rw [hR] at h2
      have HH2 := Lib.hid h2
      have HR := Lib.hid hR
      have hb1 : 2 * R ≤ Q.natAbs ∧ -(Q.natAbs : Int) ≤ 2 * R := by omega
      have hfb : -3000000000 ≤ f * Q ∧ f * Q ≤ 3000000000 := by omega
      clear hf h2 hR hfQ hb
      go_wp2_with fail
      refine (floor_c _ _ _ (by omega) (by omega) (by omega) (by omega) (by omega)).mono ?_
      rintro e w' ⟨rfl, rfl⟩
      rw [HF.out]
      go_wp2_with fail
      rw [HR.out]
      refine (size_c _ _ (by omega) (by omega)).mono ?_
      rintro e w' ⟨rfl, rfl⟩
      go_wp2
      exact ⟨⟨Q, (R.natAbs : Int), m', j + 1, rfl, by congr 1; omega, by go_num, by omega, HH2, hQ, by omega, trivial⟩, by simp [intOf]; omega⟩
end Go.Proofs.Yteeogfikncjjlaa
