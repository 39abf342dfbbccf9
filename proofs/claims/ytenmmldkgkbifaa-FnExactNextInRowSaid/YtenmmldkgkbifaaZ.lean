/- The next fraction in a row. -/
import Derived.Test.YtenmmldkgkbifaaH
import Derived.Test.YtenmmldkgkbifaaW
import Derived.Deep.DeepCutAuto
namespace Go.Proofs.Ytenmmldkgkbifaa
open Go.RowKit
set_option linter.unusedVariables false
set_option linter.unusedSimpArgs false
attribute [local go_sem] run_min_int4 run_max_int4
attribute [local go_sem] run_equalIn_M
attribute [local go_sem] run_equalIn_Q
theorem bez (a b : Nat) : ∃ u v : Int, (a : Int) * u + (b : Int) * v = (Nat.gcd a b : Int) := by
  induction a, b using Nat.gcd.induction with
  | H0 n => exact ⟨0, 1, by simp⟩
  | H1 m n h ih =>
    obtain ⟨u, v, e⟩ := ih
    refine ⟨v - u * ((n / m : Nat) : Int), u, ?_⟩
    rw [Nat.gcd_rec m n, ← e]
    have h1 : ((n % m : Nat) : Int) = (n : Int) - (m : Int) * ((n / m : Nat) : Int) := by
      have := Nat.div_add_mod n m
      have h2 : ((m * (n / m) + n % m : Nat) : Int) = (n : Int) := by rw [this]
      rw [Int.natCast_add, Int.natCast_mul] at h2
      omega
    rw [h1]
    grind
theorem greatest (P : Nat → Prop) [DecidablePred P] (n : Nat) (h : ∃ s, s ≤ n ∧ P s) : ∃ s, s ≤ n ∧ P s ∧ ∀ t, t ≤ n → P t → t ≤ s := by
  induction n with
  | zero => obtain ⟨s, h1, h2⟩ := h; exact ⟨s, h1, h2, fun t ht _ => by omega⟩
  | succ n ih =>
    by_cases hp : P (n + 1)
    · exact ⟨n + 1, Nat.le_refl _, hp, fun t ht _ => ht⟩
    · obtain ⟨s, h1, h2⟩ := h
      have h3 : s ≠ n + 1 := by rintro rfl; exact hp h2
      obtain ⟨s', g1, g2, g3⟩ := ih ⟨s, by omega, h2⟩
      exact ⟨s', by omega, g2, fun t ht pt => by
        have : t ≠ n + 1 := by rintro rfl; exact hp pt
        exact g3 t (by omega) pt⟩
/-- the next in the row of n behind x/y is r0/s0 -/
structure NextF (n x y r0 s0 : Int) : Prop where
  one : r0 * y - x * s0 = 1
  pos : 1 ≤ s0
  le : s0 ≤ n
  max : ∀ s r : Int, 1 ≤ s → s ≤ n → r * y = 1 + x * s → s ≤ s0
theorem nextF_ex {n x y : Int} (hx : 0 ≤ x) (hy : 1 ≤ y) (hn : y ≤ n) (hg : Int.gcd x y = 1) : ∃ r0 s0, NextF n x y r0 s0 := by
  obtain ⟨a, rfl⟩ := Int.eq_ofNat_of_zero_le hx
  obtain ⟨b, rfl⟩ := Int.eq_ofNat_of_zero_le (show 0 ≤ y by omega)
  obtain ⟨m, rfl⟩ := Int.eq_ofNat_of_zero_le (show 0 ≤ n by omega)
  obtain ⟨u, v, e⟩ := bez a b
  rw [show Nat.gcd a b = 1 from hg] at e
  have hex : ∃ s, s ≤ m ∧ (1 ≤ s ∧ (b : Int) ∣ 1 + (a : Int) * (s : Int)) := by
    have h1 := Int.emod_nonneg (-u - 1) (show (b : Int) ≠ 0 by omega)
    have h2 := Int.emod_lt_of_pos (-u - 1) (show 0 < (b : Int) by omega)
    have h3 := Int.emod_def (-u - 1) (b : Int)
    refine ⟨((-u - 1) % (b : Int) + 1).toNat, by omega, by omega, ?_⟩
    rw [Int.toNat_of_nonneg (by omega), h3]
    exact ⟨v - (a : Int) * ((-u - 1) / (b : Int)), by grind⟩
  obtain ⟨s, h1, ⟨h2, r, hr⟩, h3⟩ := greatest _ m hex
  refine ⟨r, s, by grind, by omega, by omega, ?_⟩
  intro t r' t1 t2 ht
  have := h3 t.toNat (by omega) ⟨by omega, by rw [Int.toNat_of_nonneg (by omega)]; exact ⟨r', by rw [← ht, Int.mul_comm]⟩⟩
  omega
theorem nextF_far {n x y r0 s0 : Int} (h : NextF n x y r0 s0) : n < s0 + y ∨ y ≤ 0 := by
  by_cases hy : y ≤ 0
  · exact .inr hy
  · left
    apply Int.not_le.mp
    intro h1
    have := h.max (s0 + y) (r0 + x) (by have := h.pos; omega) h1 (by have := h.one; grind)
    omega
/-- the least with s that is greater is not less than the next -/
theorem nextF_le {n x y r0 s0 s : Int} (h : NextF n x y r0 s0) (hx : 0 ≤ x) (hy : 1 ≤ y) (hs : 1 ≤ s) (hn : s ≤ n) : r0 * s ≤ (x * s / y + 1) * s0 ∧ (s < s0 → r0 * s < (x * s / y + 1) * s0) := by
  have e := Int.emod_def (x * s) y
  have e0 := Int.emod_nonneg (x * s) (show y ≠ 0 by omega)
  have e1 := Int.emod_lt_of_pos (x * s) (show 0 < y by omega)
  generalize x * s / y = d at *
  generalize x * s % y = m at *
  have key : y * ((d + 1) * s0 - r0 * s) = s0 * (y - m) - s := by
    have := h.one; grind
  have hf := (nextF_far h).resolve_right (by omega)
  have hp := h.pos
  have hm : s0 * 1 ≤ s0 * (y - m) := Int.mul_le_mul_of_nonneg_left (by omega) (by omega)
  have h1 : -1 < (d + 1) * s0 - r0 * s := by
    apply Int.lt_of_mul_lt_mul_left (a := y) _ (by omega)
    rw [key]; omega
  refine ⟨by omega, fun hlt => ?_⟩
  have h2 : 0 < (d + 1) * s0 - r0 * s := by
    apply Int.lt_of_mul_lt_mul_left (a := y) _ (by omega)
    rw [key]; omega
  omega
theorem nextF_at {n x y r0 s0 : Int} (h : NextF n x y r0 s0) (hy : 1 < y) : x * s0 / y + 1 = r0 := by
  have h1 : x * s0 = (y - 1) + y * (r0 - 1) := by have := h.one; grind
  rw [h1, Int.add_mul_ediv_left _ _ (by omega), Int.ediv_eq_zero_of_lt (by omega) (by omega)]
  omega
theorem nextF_at1 {n x r0 s0 : Int} (h : NextF n x 1 r0 s0) : x * s0 / 1 + 1 = r0 := by
  have := h.one; rw [Int.ediv_one]; omega
/-- at the start -/
theorem nextF_start {n x y r0 s0 : Int} (h : NextF n x y r0 s0) (hx : 0 ≤ x) (hxy : x < y) : r0 ≤ s0 ∧ (r0 = s0 → r0 = 1 ∧ s0 = 1) ∧ 1 ≤ r0 := by
  have h0 := h.one
  have hp := h.pos
  have h1 : (x + 1) * s0 ≤ y * s0 := Int.mul_le_mul_of_nonneg_right (by omega) (by omega)
  have h2 : y * r0 ≤ y * s0 := by grind
  have h3 : r0 ≤ s0 := Int.le_of_mul_le_mul_left h2 (by omega)
  have h5 : 0 ≤ x * s0 := Int.mul_nonneg hx (by omega)
  refine ⟨h3, fun e => ?_, ?_⟩
  · subst e
    have h4 : r0 * (y - x) = 1 := by grind
    rcases unit_mul h4 with ⟨a, b⟩ | ⟨a, b⟩ <;> omega
  · apply Int.not_lt.mp
    intro h6
    have : r0 * y ≤ 0 * y := Int.mul_le_mul_of_nonneg_right (by omega) (by omega)
    omega
set_option maxHeartbeats 2000000 in
theorem l03Next_c (n x y r0 s0 : Int) (w : World) (h : NextF n x y r0 s0) (hx : 0 ≤ x) (hxy : x < y) (hn : n ≤ 1000) (hy : y ≤ n) :
    Calls Try.prog 73 #[.int .i64 n, .agg #[.int .i64 x, .int .i64 y]] w fun e w' => e = .returned (.agg #[.int .i64 r0, .int .i64 s0]) ∧ Below w.heap.size w w' := by
  have H := Lib.hid h
  have p0 := h.pos
  have p1 := h.le
  clear h
  go_enter Try.func73, Try.ntmps73
  go_wp2
  go_loop [5] (fun i => ∃ k : Int, i = .int .i64 k ∧ s0 ≤ k ∧ k ≤ n) (fun i => (intOf i).toNat)
  case atStart => exact ⟨n, rfl, p1, Int.le_refl _⟩
  case round =>
    obtain ⟨k, rfl, k0, k1⟩ := hrel
    have a0 : 0 ≤ x * k := Int.mul_nonneg hx (by omega)
    have a1 : x * k ≤ 1000 * 1000 := Int.mul_le_mul (by omega) (by omega) (by omega) (by omega)
    have yz : (y == 0) = false := by simp; omega
    by_cases hk : k = s0
    · subst hk
      have o := H.out.one
      have e0 : 1 + x * k = y * r0 := by grind
      have e1 : (1 + x * k).tmod y = 0 := by rw [e0]; exact Int.mul_tmod_right _ _
      have e2 : (1 + x * k).tdiv y = r0 := by rw [e0]; exact Int.mul_tdiv_cancel_left _ (by omega)
      have r1 := Int.tdiv_nonneg (show 0 ≤ 1 + x * k by omega) (show 0 ≤ y by omega)
      have r2 : (1 + x * k).tdiv y ≤ 1 + x * k := by rw [Int.tdiv_eq_ediv_of_nonneg (by omega)]; exact Int.ediv_le_self _ (by omega)
      have E2 := Lib.hid e2
      clear o e0 e2
      go_wp2
      exact bodyPost_ret (v := .agg #[.int .i64 ((1 + x * k).tdiv y), .int .i64 k]) (by simp only [results, Try.results73]; go_simp) rfl ⟨by rw [E2.out], (by repeat' (first | (with_reducible exact Below.refl _ _) | (with_reducible assumption) | (with_reducible refine below_drewN ?_ _) | (with_reducible refine Below.drew ?_) | (with_reducible refine Below.alloc ?_ ?_ _) | (with_reducible refine Below.setCell ?_ ?_ _) | (with_reducible refine Below.trans ?_ (Below.mono (by with_reducible assumption) ?_)) | go_size | (dsimp only; omega)))⟩
    · have e1 : ((1 + x * k) % y == 0) = false := by
        simp only [beq_eq_false_iff_ne, ne_eq]
        intro e
        have d := Int.mul_ediv_add_emod (1 + x * k) y
        have := H.out.max k ((1 + x * k) / y) (by omega) k1 (by grind)
        omega
      have kp : 0 < k := by omega
      go_wp2
      all_goals exact ⟨⟨k - 1, rfl, by omega, by omega⟩, by simp only [intOf]; omega⟩
theorem ret_qq {a b c d : Int} (h : a = b) (h' : c = d) : Ending.returned (.agg #[.int .i64 a, .int .i64 c]) = .returned (.agg #[.int .i64 b, .int .i64 d]) := by rw [h, h']
set_option maxHeartbeats 4000000 in
theorem nextInRow_c (n x y r0 s0 : Int) (w : World) (h : NextF n x y r0 s0) (hx : 0 ≤ x) (hxy : x < y) (hn : n ≤ 1000) (hy : y ≤ n) :
    Calls Try.prog 74 #[.int .i64 n, .agg #[.int .i64 x, .int .i64 y]] w fun e w' => e = .returned (.agg #[.int .i64 r0, .int .i64 s0]) ∧ Below w.heap.size w w' := by
  have H := Lib.hid h
  have p0 := h.pos
  have p1 := h.le
  have hst := nextF_start h hx hxy
  clear h
  go_enter Try.func74, Try.ntmps74
  go_wp2
  go_loopw [6] (fun i wr => ∃ k bp bq : Int, i = .int .i64 k ∧ 1 ≤ k ∧ k ≤ n + 1 ∧ 0 ≤ bp ∧ bp ≤ 1001 ∧ 1 ≤ bq ∧ bq ≤ 1000 ∧ Hid ((k ≤ s0 ∧ r0 * bq < bp * s0) ∨ (bp = r0 ∧ bq = s0)) ∧
      wr.cell? ⟨w.heap.size, 0, none⟩ = some (.int .i64 x) ∧ wr.cell? ⟨w.heap.size, 1, none⟩ = some (.int .i64 y) ∧
      wr.cell? ⟨w.heap.size + 1, 0, none⟩ = some (.int .i64 0) ∧ wr.cell? ⟨w.heap.size + 1, 1, none⟩ = some (.int .i64 0) ∧
      wr.cell? ⟨w.heap.size + 2, 0, none⟩ = some (.int .i64 bp) ∧ wr.cell? ⟨w.heap.size + 2, 1, none⟩ = some (.int .i64 bq) ∧
      (∀ i, wr.frozen? ⟨w.heap.size + 1, i, none⟩ = false) ∧ (∀ i, wr.frozen? ⟨w.heap.size + 2, i, none⟩ = false) ∧
      Below w.heap.size w wr ∧ w.heap.size + 2 < wr.heap.size) (fun i wr => (n + 1 - intOf i).toNat)
  case atStart =>
    refine ⟨1, 1, 1, rfl, by omega, by omega, by omega, by omega, by omega, by omega, ?_, ?_, ?_, ?_, ?_, ?_, ?_, ?_, ?_, ?_, ?_⟩
    · show (1 ≤ s0 ∧ r0 * 1 < 1 * s0) ∨ (1 = r0 ∧ 1 = s0)
      omega
    all_goals first | (go_simp; done) | (intro i; go_simp; done) | exact (by repeat' (first | (with_reducible exact Below.refl _ _) | (with_reducible assumption) | (with_reducible refine below_drewN ?_ _) | (with_reducible refine Below.drew ?_) | (with_reducible refine Below.alloc ?_ ?_ _) | (with_reducible refine Below.setCell ?_ ?_ _) | (with_reducible refine Below.trans ?_ (Below.mono (by with_reducible assumption) ?_)) | go_size | (dsimp only; omega))) | go_size
  case round =>
    obtain ⟨k, bp, bq, rfl, k0, k1, bp0, bp1, bq0, bq1, HB, c0, c1, d0, d1, g0, g1, fd, fg, hB, hg⟩ := hrel
    have hw : w.heap.size < wr.heap.size := by omega
    have hw1 : w.heap.size + 1 < wr.heap.size := by omega
    have n1 : ¬ w.heap.size = wr.heap.size := by omega
    have n2 : ¬ w.heap.size + 1 = wr.heap.size := by omega
    have n3 : ¬ w.heap.size + 2 = wr.heap.size := by omega
    by_cases hk : k ≤ n
    · have a0 : 0 ≤ x * k := Int.mul_nonneg hx (by omega)
      have a1 : x * k ≤ 1000 * 1000 := Int.mul_le_mul (by omega) (by omega) (by omega) (by omega)
      have yz : (y == 0) = false := by simp; omega
      have t := Int.tdiv_eq_ediv_of_nonneg a0 (b := y)
      have t0 : 0 ≤ (x * k).tdiv y := by rw [t]; exact Int.ediv_nonneg a0 (by omega)
      have t1 : (x * k).tdiv y ≤ 1000 := by
        rw [t]
        apply Int.ediv_le_of_le_mul (by omega)
        have : x * k ≤ y * 1000 := Int.mul_le_mul (by omega) (by omega) (by omega) (by omega)
        omega
      have key := nextF_le H.out hx (by omega) k0 hk
      have kat : k = s0 → (x * k).tdiv y + 1 = r0 := by
        rintro rfl
        rw [t]
        by_cases hy1 : y = 1
        · subst hy1; exact nextF_at1 H.out
        · exact nextF_at H.out (by omega)
      rw [← t] at key
      have KEY := Lib.hid key
      have KAT := Lib.hid kat
      clear key kat t
      have m0 : 0 ≤ ((x * k).tdiv y + 1) * bq := Int.mul_nonneg (by omega) (by omega)
      have m1 : ((x * k).tdiv y + 1) * bq ≤ 1001 * 1000 := Int.mul_le_mul (by omega) (by omega) (by omega) (by omega)
      have m2 : 0 ≤ bp * k := Int.mul_nonneg (by omega) (by omega)
      have m3 : bp * k ≤ 1001 * 1000 := Int.mul_le_mul (by omega) (by omega) (by omega) (by omega)
      go_wp2_with fail
      refine (compare_c ((x * k).tdiv y + 1) k bp bq _ (by omega) (by omega) (by omega)).mono ?_
      rintro e w2 ⟨rfl, b2⟩
      have zzb2 := b2.size; (try simp at zzb2); have zb2_w0 : w.heap.size < w2.heap.size := (by omega); have kcb2_w0 : ∀ o, w2.cell? ⟨w.heap.size, o, none⟩ = _ := fun o => b2.cell (p := ⟨w.heap.size, o, none⟩) (by go_size); have kfb2_w0 : ∀ o, w2.frozen? ⟨w.heap.size, o, none⟩ = _ := fun o => b2.frozen (p := ⟨w.heap.size, o, none⟩) (by go_size); have zb2_w1 : w.heap.size + 1 < w2.heap.size := (by omega); have kcb2_w1 : ∀ o, w2.cell? ⟨w.heap.size + 1, o, none⟩ = _ := fun o => b2.cell (p := ⟨w.heap.size + 1, o, none⟩) (by go_size); have kfb2_w1 : ∀ o, w2.frozen? ⟨w.heap.size + 1, o, none⟩ = _ := fun o => b2.frozen (p := ⟨w.heap.size + 1, o, none⟩) (by go_size); have zb2_w2 : w.heap.size + 2 < w2.heap.size := (by omega); have kcb2_w2 : ∀ o, w2.cell? ⟨w.heap.size + 2, o, none⟩ = _ := fun o => b2.cell (p := ⟨w.heap.size + 2, o, none⟩) (by go_size); have kfb2_w2 : ∀ o, w2.frozen? ⟨w.heap.size + 2, o, none⟩ = _ := fun o => b2.frozen (p := ⟨w.heap.size + 2, o, none⟩) (by go_size); have zb2_wr0 : wr.heap.size < w2.heap.size := (by omega); have kcb2_wr0 : ∀ o, w2.cell? ⟨wr.heap.size, o, none⟩ = _ := fun o => b2.cell (p := ⟨wr.heap.size, o, none⟩) (by go_size); have kfb2_wr0 : ∀ o, w2.frozen? ⟨wr.heap.size, o, none⟩ = _ := fun o => b2.frozen (p := ⟨wr.heap.size, o, none⟩) (by go_size); clear zzb2
      by_cases hlt : ((x * k).tdiv y + 1) * bq < bp * k
      · have hc : cmpF ((x * k).tdiv y + 1) k bp bq = -1 := by unfold cmpF sgn; rw [if_pos (by omega)]
        rw [hc]
        clear hc
        have HB' : Hid ((k + 1 ≤ s0 ∧ r0 * k < ((x * k).tdiv y + 1) * s0) ∨ ((x * k).tdiv y + 1 = r0 ∧ k = s0)) := by
          have key := KEY.out
          have kat := KAT.out
          by_cases hks : k = s0
          · exact Lib.hid (.inr ⟨kat hks, hks⟩)
          · by_cases hks2 : k < s0
            · exact Lib.hid (.inl ⟨by omega, key.2 hks2⟩)
            · rcases HB.out with ⟨h1, h2⟩ | ⟨rfl, rfl⟩
              · omega
              · omega
        clear hlt
        go_wp2
        go_roundw
        case rel =>
          refine ⟨k + 1, (x * k).tdiv y + 1, k, by go_num, by omega, by omega, by omega, by omega, by omega, by omega, HB', ?_, ?_, ?_, ?_, ?_, ?_, ?_, ?_, ?_, ?_⟩
          all_goals first | (go_simp; done) | (intro i; go_simp; done) | exact (by repeat' (first | (with_reducible exact Below.refl _ _) | (with_reducible assumption) | (with_reducible refine below_drewN ?_ _) | (with_reducible refine Below.drew ?_) | (with_reducible refine Below.alloc ?_ ?_ _) | (with_reducible refine Below.setCell ?_ ?_ _) | (with_reducible refine Below.trans ?_ (Below.mono (by with_reducible assumption) ?_)) | go_size | (dsimp only; omega))) | go_size
        case measure => simp [intOf]; omega
      · have hc : cmpF ((x * k).tdiv y + 1) k bp bq = 0 ∨ cmpF ((x * k).tdiv y + 1) k bp bq = 1 := by unfold cmpF sgn; rw [if_neg (by omega)]; split <;> omega
        have HB' : Hid ((k + 1 ≤ s0 ∧ r0 * bq < bp * s0) ∨ (bp = r0 ∧ bq = s0)) := by
          have kat := KAT.out
          rcases HB.out with ⟨h1, h2⟩ | h1
          · by_cases hks : k = s0
            · subst hks
              rw [kat rfl] at hlt
              exact absurd h2 hlt
            · exact Lib.hid (.inl ⟨by omega, h2⟩)
          · exact Lib.hid (.inr h1)
        clear hlt
        rcases hc with hc | hc
        all_goals
          rw [hc]
          clear hc
          go_wp2
          go_roundw
          case rel =>
            refine ⟨k + 1, bp, bq, by go_num, by omega, by omega, by omega, by omega, by omega, by omega, HB', ?_, ?_, ?_, ?_, ?_, ?_, ?_, ?_, ?_, ?_⟩
            all_goals first | (go_simp; done) | (intro i; go_simp; done) | exact (by repeat' (first | (with_reducible exact Below.refl _ _) | (with_reducible assumption) | (with_reducible refine below_drewN ?_ _) | (with_reducible refine Below.drew ?_) | (with_reducible refine Below.alloc ?_ ?_ _) | (with_reducible refine Below.setCell ?_ ?_ _) | (with_reducible refine Below.trans ?_ (Below.mono (by with_reducible assumption) ?_)) | go_size | (dsimp only; omega))) | go_size
          case measure => simp [intOf]; omega
    · have hend : bp = r0 ∧ bq = s0 := by
        rcases HB.out with h1 | h1
        · omega
        · exact h1
      have HEND := Lib.hid hend
      clear hend
      go_wp2
      exact bodyPost_ret (v := .agg #[.int .i64 bp, .int .i64 bq]) (by simp only [results, Try.results74]; go_simp) rfl ⟨ret_qq HEND.out.1 HEND.out.2, (by repeat' (first | (with_reducible exact Below.refl _ _) | (with_reducible assumption) | (with_reducible refine below_drewN ?_ _) | (with_reducible refine Below.drew ?_) | (with_reducible refine Below.alloc ?_ ?_ _) | (with_reducible refine Below.setCell ?_ ?_ _) | (with_reducible refine Below.trans ?_ (Below.mono (by with_reducible assumption) ?_)) | go_size | (dsimp only; omega)))⟩
def rngA (n : Int) : Bool := decide (1 ≤ n) && decide (n ≤ 1000)
def rngB (n y : Int) : Bool := decide (1 ≤ y) && decide (y ≤ n)
def rngC (x y : Int) : Bool := decide (0 ≤ x) && decide (x ≤ y)
theorem rng_iff {n x y : Int} (hA : rngA n = true) (hB : rngB n y = true) (hC : rngC x y = true) : n ≤ 1000 ∧ y ≤ n ∧ 0 ≤ x ∧ x ≤ y := by
  unfold rngA at hA; unfold rngB at hB; unfold rngC at hC
  simp at hA hB hC
  omega
theorem NextInRow_no (n x y : Int) (w : World) (h : isF x y = false) :
    Calls Try.prog 48 #[.int .i64 n, .agg #[.int .i64 x, .int .i64 y]] w fun e w' => e = .returned (.tuple #[.agg #[.int .i64 0, .int .i64 0], .int .i64 1]) ∧ Below w.heap.size w w' := by
  go_enter Try.func48, Try.ntmps48
  go_wp2_with fail
  refine (IsFraction_c _ _ _).mono ?_
  rintro e w1 ⟨rfl, b1⟩
  have zzb1 := b1.size; (try simp at zzb1); have zb1_0 : w.heap.size < w1.heap.size := (by omega); have kcb1_0 : ∀ o, w1.cell? ⟨w.heap.size, o, none⟩ = _ := fun o => b1.cell (p := ⟨w.heap.size, o, none⟩) (by go_size); have kfb1_0 : ∀ o, w1.frozen? ⟨w.heap.size, o, none⟩ = _ := fun o => b1.frozen (p := ⟨w.heap.size, o, none⟩) (by go_size); have zb1_1 : w.heap.size + 1 < w1.heap.size := (by omega); have kcb1_1 : ∀ o, w1.cell? ⟨w.heap.size + 1, o, none⟩ = _ := fun o => b1.cell (p := ⟨w.heap.size + 1, o, none⟩) (by go_size); have kfb1_1 : ∀ o, w1.frozen? ⟨w.heap.size + 1, o, none⟩ = _ := fun o => b1.frozen (p := ⟨w.heap.size + 1, o, none⟩) (by go_size); clear zzb1
  go_wp2
  exact bodyPost_ret (v := .tuple #[.agg #[.int .i64 0, .int .i64 0], .int .i64 1]) (by simp only [results, Try.results48]; go_simp) rfl ⟨rfl, (by repeat' (first | (with_reducible exact Below.refl _ _) | (with_reducible assumption) | (with_reducible refine below_drewN ?_ _) | (with_reducible refine Below.drew ?_) | (with_reducible refine Below.alloc ?_ ?_ _) | (with_reducible refine Below.setCell ?_ ?_ _) | (with_reducible refine Below.trans ?_ (Below.mono (by with_reducible assumption) ?_)) | go_size | (dsimp only; omega)))⟩
theorem NextInRow_range (n x y : Int) (w : World) (h : isF x y = true) (hr : rngA n = false ∨ (rngA n = true ∧ rngB n y = false) ∨ (rngA n = true ∧ rngB n y = true ∧ rngC x y = false)) :
    Calls Try.prog 48 #[.int .i64 n, .agg #[.int .i64 x, .int .i64 y]] w fun e w' => e = .returned (.tuple #[.agg #[.int .i64 0, .int .i64 0], .int .i64 2]) ∧ Below w.heap.size w w' := by
  rcases hr with hA | ⟨hA, hB⟩ | ⟨hA, hB, hC⟩
  · have HA := Lib.hid hA
    clear hA
    go_enter Try.func48, Try.ntmps48
    go_wp2_with fail
    refine (IsFraction_c _ _ _).mono ?_
    rintro e w1 ⟨rfl, b1⟩
    have zzb1 := b1.size; (try simp at zzb1); have zb1_0 : w.heap.size < w1.heap.size := (by omega); have kcb1_0 : ∀ o, w1.cell? ⟨w.heap.size, o, none⟩ = _ := fun o => b1.cell (p := ⟨w.heap.size, o, none⟩) (by go_size); have kfb1_0 : ∀ o, w1.frozen? ⟨w.heap.size, o, none⟩ = _ := fun o => b1.frozen (p := ⟨w.heap.size, o, none⟩) (by go_size); have zb1_1 : w.heap.size + 1 < w1.heap.size := (by omega); have kcb1_1 : ∀ o, w1.cell? ⟨w.heap.size + 1, o, none⟩ = _ := fun o => b1.cell (p := ⟨w.heap.size + 1, o, none⟩) (by go_size); have kfb1_1 : ∀ o, w1.frozen? ⟨w.heap.size + 1, o, none⟩ = _ := fun o => b1.frozen (p := ⟨w.heap.size + 1, o, none⟩) (by go_size); clear zzb1
    go_wp2_with fail
    refine (within_c _ _ _ _).mono ?_
    rintro e w2 ⟨rfl, rfl⟩
    rw [show (decide (1 ≤ n) && decide (n ≤ 1000)) = false from HA.out]
    go_wp2
    exact bodyPost_ret (v := .tuple #[.agg #[.int .i64 0, .int .i64 0], .int .i64 2]) (by simp only [results, Try.results48]; go_simp) rfl ⟨rfl, (by repeat' (first | (with_reducible exact Below.refl _ _) | (with_reducible assumption) | (with_reducible refine below_drewN ?_ _) | (with_reducible refine Below.drew ?_) | (with_reducible refine Below.alloc ?_ ?_ _) | (with_reducible refine Below.setCell ?_ ?_ _) | (with_reducible refine Below.trans ?_ (Below.mono (by with_reducible assumption) ?_)) | go_size | (dsimp only; omega)))⟩
  · have HA := Lib.hid hA
    have HB := Lib.hid hB
    clear hA hB
    go_enter Try.func48, Try.ntmps48
    go_wp2_with fail
    refine (IsFraction_c _ _ _).mono ?_
    rintro e w1 ⟨rfl, b1⟩
    have zzb1 := b1.size; (try simp at zzb1); have zb1_0 : w.heap.size < w1.heap.size := (by omega); have kcb1_0 : ∀ o, w1.cell? ⟨w.heap.size, o, none⟩ = _ := fun o => b1.cell (p := ⟨w.heap.size, o, none⟩) (by go_size); have kfb1_0 : ∀ o, w1.frozen? ⟨w.heap.size, o, none⟩ = _ := fun o => b1.frozen (p := ⟨w.heap.size, o, none⟩) (by go_size); have zb1_1 : w.heap.size + 1 < w1.heap.size := (by omega); have kcb1_1 : ∀ o, w1.cell? ⟨w.heap.size + 1, o, none⟩ = _ := fun o => b1.cell (p := ⟨w.heap.size + 1, o, none⟩) (by go_size); have kfb1_1 : ∀ o, w1.frozen? ⟨w.heap.size + 1, o, none⟩ = _ := fun o => b1.frozen (p := ⟨w.heap.size + 1, o, none⟩) (by go_size); clear zzb1
    go_wp2_with fail
    refine (within_c _ _ _ _).mono ?_
    rintro e w2 ⟨rfl, rfl⟩
    rw [show (decide (1 ≤ n) && decide (n ≤ 1000)) = true from HA.out]
    go_wp2_with fail
    refine (within_c _ _ _ _).mono ?_
    rintro e w3 ⟨rfl, rfl⟩
    rw [show (decide (1 ≤ y) && decide (y ≤ n)) = false from HB.out]
    go_wp2
    exact bodyPost_ret (v := .tuple #[.agg #[.int .i64 0, .int .i64 0], .int .i64 2]) (by simp only [results, Try.results48]; go_simp) rfl ⟨rfl, (by repeat' (first | (with_reducible exact Below.refl _ _) | (with_reducible assumption) | (with_reducible refine below_drewN ?_ _) | (with_reducible refine Below.drew ?_) | (with_reducible refine Below.alloc ?_ ?_ _) | (with_reducible refine Below.setCell ?_ ?_ _) | (with_reducible refine Below.trans ?_ (Below.mono (by with_reducible assumption) ?_)) | go_size | (dsimp only; omega)))⟩
  · have HA := Lib.hid hA
    have HB := Lib.hid hB
    have HC := Lib.hid hC
    clear hA hB hC
    go_enter Try.func48, Try.ntmps48
    go_wp2_with fail
    refine (IsFraction_c _ _ _).mono ?_
    rintro e w1 ⟨rfl, b1⟩
    have zzb1 := b1.size; (try simp at zzb1); have zb1_0 : w.heap.size < w1.heap.size := (by omega); have kcb1_0 : ∀ o, w1.cell? ⟨w.heap.size, o, none⟩ = _ := fun o => b1.cell (p := ⟨w.heap.size, o, none⟩) (by go_size); have kfb1_0 : ∀ o, w1.frozen? ⟨w.heap.size, o, none⟩ = _ := fun o => b1.frozen (p := ⟨w.heap.size, o, none⟩) (by go_size); have zb1_1 : w.heap.size + 1 < w1.heap.size := (by omega); have kcb1_1 : ∀ o, w1.cell? ⟨w.heap.size + 1, o, none⟩ = _ := fun o => b1.cell (p := ⟨w.heap.size + 1, o, none⟩) (by go_size); have kfb1_1 : ∀ o, w1.frozen? ⟨w.heap.size + 1, o, none⟩ = _ := fun o => b1.frozen (p := ⟨w.heap.size + 1, o, none⟩) (by go_size); clear zzb1
    go_wp2_with fail
    refine (within_c _ _ _ _).mono ?_
    rintro e w2 ⟨rfl, rfl⟩
    rw [show (decide (1 ≤ n) && decide (n ≤ 1000)) = true from HA.out]
    go_wp2_with fail
    refine (within_c _ _ _ _).mono ?_
    rintro e w3 ⟨rfl, rfl⟩
    rw [show (decide (1 ≤ y) && decide (y ≤ n)) = true from HB.out]
    go_wp2_with fail
    refine (within_c _ _ _ _).mono ?_
    rintro e w4 ⟨rfl, rfl⟩
    rw [show (decide (0 ≤ x) && decide (x ≤ y)) = false from HC.out]
    go_wp2
    exact bodyPost_ret (v := .tuple #[.agg #[.int .i64 0, .int .i64 0], .int .i64 2]) (by simp only [results, Try.results48]; go_simp) rfl ⟨rfl, (by repeat' (first | (with_reducible exact Below.refl _ _) | (with_reducible assumption) | (with_reducible refine below_drewN ?_ _) | (with_reducible refine Below.drew ?_) | (with_reducible refine Below.alloc ?_ ?_ _) | (with_reducible refine Below.setCell ?_ ?_ _) | (with_reducible refine Below.trans ?_ (Below.mono (by with_reducible assumption) ?_)) | go_size | (dsimp only; omega)))⟩
theorem NextInRow_one (n : Int) (w : World) (hA : rngA n = true) (hB : rngB n 1 = true) :
    Calls Try.prog 48 #[.int .i64 n, .agg #[.int .i64 1, .int .i64 1]] w fun e w' => e = .returned (.tuple #[.agg #[.int .i64 0, .int .i64 0], .int .i64 4]) ∧ Below w.heap.size w w' := by
  have h : isF 1 1 = true := by decide
  have hC : rngC 1 1 = true := by decide
  have HA := Lib.hid hA
  have HB := Lib.hid hB
  have HC := Lib.hid hC
  clear hA hB hC
  go_enter Try.func48, Try.ntmps48
  go_wp2_with fail
  refine (IsFraction_c _ _ _).mono ?_
  rintro e w1 ⟨rfl, b1⟩
  have zzb1 := b1.size; (try simp at zzb1); have zb1_0 : w.heap.size < w1.heap.size := (by omega); have kcb1_0 : ∀ o, w1.cell? ⟨w.heap.size, o, none⟩ = _ := fun o => b1.cell (p := ⟨w.heap.size, o, none⟩) (by go_size); have kfb1_0 : ∀ o, w1.frozen? ⟨w.heap.size, o, none⟩ = _ := fun o => b1.frozen (p := ⟨w.heap.size, o, none⟩) (by go_size); have zb1_1 : w.heap.size + 1 < w1.heap.size := (by omega); have kcb1_1 : ∀ o, w1.cell? ⟨w.heap.size + 1, o, none⟩ = _ := fun o => b1.cell (p := ⟨w.heap.size + 1, o, none⟩) (by go_size); have kfb1_1 : ∀ o, w1.frozen? ⟨w.heap.size + 1, o, none⟩ = _ := fun o => b1.frozen (p := ⟨w.heap.size + 1, o, none⟩) (by go_size); clear zzb1
  go_wp2_with fail
  refine (within_c _ _ _ _).mono ?_
  rintro e w2 ⟨rfl, rfl⟩
  rw [show (decide (1 ≤ n) && decide (n ≤ 1000)) = true from HA.out]
  go_wp2_with fail
  refine (within_c _ _ _ _).mono ?_
  rintro e w3 ⟨rfl, rfl⟩
  rw [show (decide (1 ≤ (1 : Int)) && decide (1 ≤ n)) = true from HB.out]
  go_wp2_with fail
  refine (within_c _ _ _ _).mono ?_
  rintro e w4 ⟨rfl, rfl⟩
  rw [show (decide (0 ≤ (1 : Int)) && decide ((1 : Int) ≤ 1)) = true from HC.out]
  go_wp2
  exact bodyPost_ret (v := .tuple #[.agg #[.int .i64 0, .int .i64 0], .int .i64 4]) (by simp only [results, Try.results48]; go_simp) rfl ⟨rfl, (by repeat' (first | (with_reducible exact Below.refl _ _) | (with_reducible assumption) | (with_reducible refine below_drewN ?_ _) | (with_reducible refine Below.drew ?_) | (with_reducible refine Below.alloc ?_ ?_ _) | (with_reducible refine Below.setCell ?_ ?_ _) | (with_reducible refine Below.trans ?_ (Below.mono (by with_reducible assumption) ?_)) | go_size | (dsimp only; omega)))⟩
theorem NextInRow_yes (n x y r0 s0 : Int) (w : World) (h : isF x y = true) (hA : rngA n = true) (hB : rngB n y = true) (hC : rngC x y = true) (hxy : x < y) (hN : NextF n x y r0 s0) :
    Calls Try.prog 48 #[.int .i64 n, .agg #[.int .i64 x, .int .i64 y]] w fun e w' => e = .returned (.tuple #[.agg #[.int .i64 r0, .int .i64 s0], .int .i64 0]) ∧ Below w.heap.size w w' := by
  obtain ⟨i1, i2, i3, i4⟩ := rng_iff hA hB hC
  have hne : (x == 1 && y == 1) = false := by
    cases hh : (x == 1 && y == 1)
    · rfl
    · simp at hh; omega
  have HA := Lib.hid hA
  have HB := Lib.hid hB
  have HC := Lib.hid hC
  have HN := Lib.hid hN
  clear hA hB hC hN
  go_enter Try.func48, Try.ntmps48
  go_wp2_with fail
  refine (IsFraction_c _ _ _).mono ?_
  rintro e w1 ⟨rfl, b1⟩
  have zzb1 := b1.size; (try simp at zzb1); have zb1_0 : w.heap.size < w1.heap.size := (by omega); have kcb1_0 : ∀ o, w1.cell? ⟨w.heap.size, o, none⟩ = _ := fun o => b1.cell (p := ⟨w.heap.size, o, none⟩) (by go_size); have kfb1_0 : ∀ o, w1.frozen? ⟨w.heap.size, o, none⟩ = _ := fun o => b1.frozen (p := ⟨w.heap.size, o, none⟩) (by go_size); have zb1_1 : w.heap.size + 1 < w1.heap.size := (by omega); have kcb1_1 : ∀ o, w1.cell? ⟨w.heap.size + 1, o, none⟩ = _ := fun o => b1.cell (p := ⟨w.heap.size + 1, o, none⟩) (by go_size); have kfb1_1 : ∀ o, w1.frozen? ⟨w.heap.size + 1, o, none⟩ = _ := fun o => b1.frozen (p := ⟨w.heap.size + 1, o, none⟩) (by go_size); clear zzb1
  go_wp2_with fail
  refine (within_c _ _ _ _).mono ?_
  rintro e w2 ⟨rfl, rfl⟩
  rw [show (decide (1 ≤ n) && decide (n ≤ 1000)) = true from HA.out]
  go_wp2_with fail
  refine (within_c _ _ _ _).mono ?_
  rintro e w3 ⟨rfl, rfl⟩
  rw [show (decide (1 ≤ y) && decide (y ≤ n)) = true from HB.out]
  go_wp2_with fail
  refine (within_c _ _ _ _).mono ?_
  rintro e w4 ⟨rfl, rfl⟩
  rw [show (decide (0 ≤ x) && decide (x ≤ y)) = true from HC.out]
  go_wp2_with fail
  refine (nextInRow_c n x y r0 s0 _ HN.out i3 hxy i1 i2).mono ?_
  rintro e w5 ⟨rfl, b5⟩
  have zzb5 := b5.size; (try simp at zzb5); have zb5_0 : w.heap.size < w5.heap.size := (by omega); have kcb5_0 : ∀ o, w5.cell? ⟨w.heap.size, o, none⟩ = _ := fun o => b5.cell (p := ⟨w.heap.size, o, none⟩) (by go_size); have kfb5_0 : ∀ o, w5.frozen? ⟨w.heap.size, o, none⟩ = _ := fun o => b5.frozen (p := ⟨w.heap.size, o, none⟩) (by go_size); have zb5_1 : w.heap.size + 1 < w5.heap.size := (by omega); have kcb5_1 : ∀ o, w5.cell? ⟨w.heap.size + 1, o, none⟩ = _ := fun o => b5.cell (p := ⟨w.heap.size + 1, o, none⟩) (by go_size); have kfb5_1 : ∀ o, w5.frozen? ⟨w.heap.size + 1, o, none⟩ = _ := fun o => b5.frozen (p := ⟨w.heap.size + 1, o, none⟩) (by go_size); clear zzb5
  go_wp2
  exact bodyPost_ret (v := .tuple #[.agg #[.int .i64 r0, .int .i64 s0], .int .i64 0]) (by simp only [results, Try.results48]; go_simp) rfl ⟨rfl, (by repeat' (first | (with_reducible exact Below.refl _ _) | (with_reducible assumption) | (with_reducible refine below_drewN ?_ _) | (with_reducible refine Below.drew ?_) | (with_reducible refine Below.alloc ?_ ?_ _) | (with_reducible refine Below.setCell ?_ ?_ _) | (with_reducible refine Below.trans ?_ (Below.mono (by with_reducible assumption) ?_)) | go_size | (dsimp only; omega)))⟩
theorem sNextInRow_no (n x y : Int) (w : World) (h : isF x y = false) :
    Calls Try.prog 47 #[.int .i64 n, .agg #[.int .i64 x, .int .i64 y]] w fun e w' => e = .returned (.tuple #[.agg #[.int .i64 0, .int .i64 0], .int .i64 1]) ∧ Below w.heap.size w w' := by
  go_enter Try.func47, Try.ntmps47
  go_wp2_with fail
  refine (l01Fraction_c _ _ _).mono ?_
  rintro e w1 ⟨rfl, b1⟩
  have zzb1 := b1.size; (try simp at zzb1); have zb1_0 : w.heap.size < w1.heap.size := (by omega); have kcb1_0 : ∀ o, w1.cell? ⟨w.heap.size, o, none⟩ = _ := fun o => b1.cell (p := ⟨w.heap.size, o, none⟩) (by go_size); have kfb1_0 : ∀ o, w1.frozen? ⟨w.heap.size, o, none⟩ = _ := fun o => b1.frozen (p := ⟨w.heap.size, o, none⟩) (by go_size); have zb1_1 : w.heap.size + 1 < w1.heap.size := (by omega); have kcb1_1 : ∀ o, w1.cell? ⟨w.heap.size + 1, o, none⟩ = _ := fun o => b1.cell (p := ⟨w.heap.size + 1, o, none⟩) (by go_size); have kfb1_1 : ∀ o, w1.frozen? ⟨w.heap.size + 1, o, none⟩ = _ := fun o => b1.frozen (p := ⟨w.heap.size + 1, o, none⟩) (by go_size); clear zzb1
  go_wp2
  exact bodyPost_ret (v := .tuple #[.agg #[.int .i64 0, .int .i64 0], .int .i64 1]) (by simp only [results, Try.results47]; go_simp) rfl ⟨rfl, (by repeat' (first | (with_reducible exact Below.refl _ _) | (with_reducible assumption) | (with_reducible refine below_drewN ?_ _) | (with_reducible refine Below.drew ?_) | (with_reducible refine Below.alloc ?_ ?_ _) | (with_reducible refine Below.setCell ?_ ?_ _) | (with_reducible refine Below.trans ?_ (Below.mono (by with_reducible assumption) ?_)) | go_size | (dsimp only; omega)))⟩
theorem sNextInRow_range (n x y : Int) (w : World) (h : isF x y = true) (hr : rngA n = false ∨ (rngA n = true ∧ rngB n y = false) ∨ (rngA n = true ∧ rngB n y = true ∧ rngC x y = false)) :
    Calls Try.prog 47 #[.int .i64 n, .agg #[.int .i64 x, .int .i64 y]] w fun e w' => e = .returned (.tuple #[.agg #[.int .i64 0, .int .i64 0], .int .i64 2]) ∧ Below w.heap.size w w' := by
  rcases hr with hA | ⟨hA, hB⟩ | ⟨hA, hB, hC⟩
  · have HA := Lib.hid hA
    clear hA
    go_enter Try.func47, Try.ntmps47
    go_wp2_with fail
    refine (l01Fraction_c _ _ _).mono ?_
    rintro e w1 ⟨rfl, b1⟩
    have zzb1 := b1.size; (try simp at zzb1); have zb1_0 : w.heap.size < w1.heap.size := (by omega); have kcb1_0 : ∀ o, w1.cell? ⟨w.heap.size, o, none⟩ = _ := fun o => b1.cell (p := ⟨w.heap.size, o, none⟩) (by go_size); have kfb1_0 : ∀ o, w1.frozen? ⟨w.heap.size, o, none⟩ = _ := fun o => b1.frozen (p := ⟨w.heap.size, o, none⟩) (by go_size); have zb1_1 : w.heap.size + 1 < w1.heap.size := (by omega); have kcb1_1 : ∀ o, w1.cell? ⟨w.heap.size + 1, o, none⟩ = _ := fun o => b1.cell (p := ⟨w.heap.size + 1, o, none⟩) (by go_size); have kfb1_1 : ∀ o, w1.frozen? ⟨w.heap.size + 1, o, none⟩ = _ := fun o => b1.frozen (p := ⟨w.heap.size + 1, o, none⟩) (by go_size); clear zzb1
    go_wp2_with fail
    refine (l01In_c _ _ _ _).mono ?_
    rintro e w2 ⟨rfl, rfl⟩
    rw [show (decide (1 ≤ n) && decide (n ≤ 1000)) = false from HA.out]
    go_wp2
    exact bodyPost_ret (v := .tuple #[.agg #[.int .i64 0, .int .i64 0], .int .i64 2]) (by simp only [results, Try.results47]; go_simp) rfl ⟨rfl, (by repeat' (first | (with_reducible exact Below.refl _ _) | (with_reducible assumption) | (with_reducible refine below_drewN ?_ _) | (with_reducible refine Below.drew ?_) | (with_reducible refine Below.alloc ?_ ?_ _) | (with_reducible refine Below.setCell ?_ ?_ _) | (with_reducible refine Below.trans ?_ (Below.mono (by with_reducible assumption) ?_)) | go_size | (dsimp only; omega)))⟩
  · have HA := Lib.hid hA
    have HB := Lib.hid hB
    clear hA hB
    go_enter Try.func47, Try.ntmps47
    go_wp2_with fail
    refine (l01Fraction_c _ _ _).mono ?_
    rintro e w1 ⟨rfl, b1⟩
    have zzb1 := b1.size; (try simp at zzb1); have zb1_0 : w.heap.size < w1.heap.size := (by omega); have kcb1_0 : ∀ o, w1.cell? ⟨w.heap.size, o, none⟩ = _ := fun o => b1.cell (p := ⟨w.heap.size, o, none⟩) (by go_size); have kfb1_0 : ∀ o, w1.frozen? ⟨w.heap.size, o, none⟩ = _ := fun o => b1.frozen (p := ⟨w.heap.size, o, none⟩) (by go_size); have zb1_1 : w.heap.size + 1 < w1.heap.size := (by omega); have kcb1_1 : ∀ o, w1.cell? ⟨w.heap.size + 1, o, none⟩ = _ := fun o => b1.cell (p := ⟨w.heap.size + 1, o, none⟩) (by go_size); have kfb1_1 : ∀ o, w1.frozen? ⟨w.heap.size + 1, o, none⟩ = _ := fun o => b1.frozen (p := ⟨w.heap.size + 1, o, none⟩) (by go_size); clear zzb1
    go_wp2_with fail
    refine (l01In_c _ _ _ _).mono ?_
    rintro e w2 ⟨rfl, rfl⟩
    rw [show (decide (1 ≤ n) && decide (n ≤ 1000)) = true from HA.out]
    go_wp2_with fail
    refine (l01In_c _ _ _ _).mono ?_
    rintro e w3 ⟨rfl, rfl⟩
    rw [show (decide (1 ≤ y) && decide (y ≤ n)) = false from HB.out]
    go_wp2
    exact bodyPost_ret (v := .tuple #[.agg #[.int .i64 0, .int .i64 0], .int .i64 2]) (by simp only [results, Try.results47]; go_simp) rfl ⟨rfl, (by repeat' (first | (with_reducible exact Below.refl _ _) | (with_reducible assumption) | (with_reducible refine below_drewN ?_ _) | (with_reducible refine Below.drew ?_) | (with_reducible refine Below.alloc ?_ ?_ _) | (with_reducible refine Below.setCell ?_ ?_ _) | (with_reducible refine Below.trans ?_ (Below.mono (by with_reducible assumption) ?_)) | go_size | (dsimp only; omega)))⟩
  · have HA := Lib.hid hA
    have HB := Lib.hid hB
    have HC := Lib.hid hC
    clear hA hB hC
    go_enter Try.func47, Try.ntmps47
    go_wp2_with fail
    refine (l01Fraction_c _ _ _).mono ?_
    rintro e w1 ⟨rfl, b1⟩
    have zzb1 := b1.size; (try simp at zzb1); have zb1_0 : w.heap.size < w1.heap.size := (by omega); have kcb1_0 : ∀ o, w1.cell? ⟨w.heap.size, o, none⟩ = _ := fun o => b1.cell (p := ⟨w.heap.size, o, none⟩) (by go_size); have kfb1_0 : ∀ o, w1.frozen? ⟨w.heap.size, o, none⟩ = _ := fun o => b1.frozen (p := ⟨w.heap.size, o, none⟩) (by go_size); have zb1_1 : w.heap.size + 1 < w1.heap.size := (by omega); have kcb1_1 : ∀ o, w1.cell? ⟨w.heap.size + 1, o, none⟩ = _ := fun o => b1.cell (p := ⟨w.heap.size + 1, o, none⟩) (by go_size); have kfb1_1 : ∀ o, w1.frozen? ⟨w.heap.size + 1, o, none⟩ = _ := fun o => b1.frozen (p := ⟨w.heap.size + 1, o, none⟩) (by go_size); clear zzb1
    go_wp2_with fail
    refine (l01In_c _ _ _ _).mono ?_
    rintro e w2 ⟨rfl, rfl⟩
    rw [show (decide (1 ≤ n) && decide (n ≤ 1000)) = true from HA.out]
    go_wp2_with fail
    refine (l01In_c _ _ _ _).mono ?_
    rintro e w3 ⟨rfl, rfl⟩
    rw [show (decide (1 ≤ y) && decide (y ≤ n)) = true from HB.out]
    go_wp2_with fail
    refine (l01In_c _ _ _ _).mono ?_
    rintro e w4 ⟨rfl, rfl⟩
    rw [show (decide (0 ≤ x) && decide (x ≤ y)) = false from HC.out]
    go_wp2
    exact bodyPost_ret (v := .tuple #[.agg #[.int .i64 0, .int .i64 0], .int .i64 2]) (by simp only [results, Try.results47]; go_simp) rfl ⟨rfl, (by repeat' (first | (with_reducible exact Below.refl _ _) | (with_reducible assumption) | (with_reducible refine below_drewN ?_ _) | (with_reducible refine Below.drew ?_) | (with_reducible refine Below.alloc ?_ ?_ _) | (with_reducible refine Below.setCell ?_ ?_ _) | (with_reducible refine Below.trans ?_ (Below.mono (by with_reducible assumption) ?_)) | go_size | (dsimp only; omega)))⟩
theorem sNextInRow_one (n : Int) (w : World) (hA : rngA n = true) (hB : rngB n 1 = true) :
    Calls Try.prog 47 #[.int .i64 n, .agg #[.int .i64 1, .int .i64 1]] w fun e w' => e = .returned (.tuple #[.agg #[.int .i64 0, .int .i64 0], .int .i64 4]) ∧ Below w.heap.size w w' := by
  have h : isF 1 1 = true := by decide
  have hC : rngC 1 1 = true := by decide
  have HA := Lib.hid hA
  have HB := Lib.hid hB
  have HC := Lib.hid hC
  clear hA hB hC
  go_enter Try.func47, Try.ntmps47
  go_wp2_with fail
  refine (l01Fraction_c _ _ _).mono ?_
  rintro e w1 ⟨rfl, b1⟩
  have zzb1 := b1.size; (try simp at zzb1); have zb1_0 : w.heap.size < w1.heap.size := (by omega); have kcb1_0 : ∀ o, w1.cell? ⟨w.heap.size, o, none⟩ = _ := fun o => b1.cell (p := ⟨w.heap.size, o, none⟩) (by go_size); have kfb1_0 : ∀ o, w1.frozen? ⟨w.heap.size, o, none⟩ = _ := fun o => b1.frozen (p := ⟨w.heap.size, o, none⟩) (by go_size); have zb1_1 : w.heap.size + 1 < w1.heap.size := (by omega); have kcb1_1 : ∀ o, w1.cell? ⟨w.heap.size + 1, o, none⟩ = _ := fun o => b1.cell (p := ⟨w.heap.size + 1, o, none⟩) (by go_size); have kfb1_1 : ∀ o, w1.frozen? ⟨w.heap.size + 1, o, none⟩ = _ := fun o => b1.frozen (p := ⟨w.heap.size + 1, o, none⟩) (by go_size); clear zzb1
  go_wp2_with fail
  refine (l01In_c _ _ _ _).mono ?_
  rintro e w2 ⟨rfl, rfl⟩
  rw [show (decide (1 ≤ n) && decide (n ≤ 1000)) = true from HA.out]
  go_wp2_with fail
  refine (l01In_c _ _ _ _).mono ?_
  rintro e w3 ⟨rfl, rfl⟩
  rw [show (decide (1 ≤ (1 : Int)) && decide (1 ≤ n)) = true from HB.out]
  go_wp2_with fail
  refine (l01In_c _ _ _ _).mono ?_
  rintro e w4 ⟨rfl, rfl⟩
  rw [show (decide (0 ≤ (1 : Int)) && decide ((1 : Int) ≤ 1)) = true from HC.out]
  go_wp2
  exact bodyPost_ret (v := .tuple #[.agg #[.int .i64 0, .int .i64 0], .int .i64 4]) (by simp only [results, Try.results47]; go_simp) rfl ⟨rfl, (by repeat' (first | (with_reducible exact Below.refl _ _) | (with_reducible assumption) | (with_reducible refine below_drewN ?_ _) | (with_reducible refine Below.drew ?_) | (with_reducible refine Below.alloc ?_ ?_ _) | (with_reducible refine Below.setCell ?_ ?_ _) | (with_reducible refine Below.trans ?_ (Below.mono (by with_reducible assumption) ?_)) | go_size | (dsimp only; omega)))⟩
theorem sNextInRow_yes (n x y r0 s0 : Int) (w : World) (h : isF x y = true) (hA : rngA n = true) (hB : rngB n y = true) (hC : rngC x y = true) (hxy : x < y) (hN : NextF n x y r0 s0) :
    Calls Try.prog 47 #[.int .i64 n, .agg #[.int .i64 x, .int .i64 y]] w fun e w' => e = .returned (.tuple #[.agg #[.int .i64 r0, .int .i64 s0], .int .i64 0]) ∧ Below w.heap.size w w' := by
  obtain ⟨i1, i2, i3, i4⟩ := rng_iff hA hB hC
  have hne : (x == 1 && y == 1) = false := by
    cases hh : (x == 1 && y == 1)
    · rfl
    · simp at hh; omega
  have HA := Lib.hid hA
  have HB := Lib.hid hB
  have HC := Lib.hid hC
  have HN := Lib.hid hN
  clear hA hB hC hN
  go_enter Try.func47, Try.ntmps47
  go_wp2_with fail
  refine (l01Fraction_c _ _ _).mono ?_
  rintro e w1 ⟨rfl, b1⟩
  have zzb1 := b1.size; (try simp at zzb1); have zb1_0 : w.heap.size < w1.heap.size := (by omega); have kcb1_0 : ∀ o, w1.cell? ⟨w.heap.size, o, none⟩ = _ := fun o => b1.cell (p := ⟨w.heap.size, o, none⟩) (by go_size); have kfb1_0 : ∀ o, w1.frozen? ⟨w.heap.size, o, none⟩ = _ := fun o => b1.frozen (p := ⟨w.heap.size, o, none⟩) (by go_size); have zb1_1 : w.heap.size + 1 < w1.heap.size := (by omega); have kcb1_1 : ∀ o, w1.cell? ⟨w.heap.size + 1, o, none⟩ = _ := fun o => b1.cell (p := ⟨w.heap.size + 1, o, none⟩) (by go_size); have kfb1_1 : ∀ o, w1.frozen? ⟨w.heap.size + 1, o, none⟩ = _ := fun o => b1.frozen (p := ⟨w.heap.size + 1, o, none⟩) (by go_size); clear zzb1
  go_wp2_with fail
  refine (l01In_c _ _ _ _).mono ?_
  rintro e w2 ⟨rfl, rfl⟩
  rw [show (decide (1 ≤ n) && decide (n ≤ 1000)) = true from HA.out]
  go_wp2_with fail
  refine (l01In_c _ _ _ _).mono ?_
  rintro e w3 ⟨rfl, rfl⟩
  rw [show (decide (1 ≤ y) && decide (y ≤ n)) = true from HB.out]
  go_wp2_with fail
  refine (l01In_c _ _ _ _).mono ?_
  rintro e w4 ⟨rfl, rfl⟩
  rw [show (decide (0 ≤ x) && decide (x ≤ y)) = true from HC.out]
  go_wp2_with fail
  refine (l03Next_c n x y r0 s0 _ HN.out i3 hxy i1 i2).mono ?_
  rintro e w5 ⟨rfl, b5⟩
  have zzb5 := b5.size; (try simp at zzb5); have zb5_0 : w.heap.size < w5.heap.size := (by omega); have kcb5_0 : ∀ o, w5.cell? ⟨w.heap.size, o, none⟩ = _ := fun o => b5.cell (p := ⟨w.heap.size, o, none⟩) (by go_size); have kfb5_0 : ∀ o, w5.frozen? ⟨w.heap.size, o, none⟩ = _ := fun o => b5.frozen (p := ⟨w.heap.size, o, none⟩) (by go_size); have zb5_1 : w.heap.size + 1 < w5.heap.size := (by omega); have kcb5_1 : ∀ o, w5.cell? ⟨w.heap.size + 1, o, none⟩ = _ := fun o => b5.cell (p := ⟨w.heap.size + 1, o, none⟩) (by go_size); have kfb5_1 : ∀ o, w5.frozen? ⟨w.heap.size + 1, o, none⟩ = _ := fun o => b5.frozen (p := ⟨w.heap.size + 1, o, none⟩) (by go_size); clear zzb5
  go_wp2
  exact bodyPost_ret (v := .tuple #[.agg #[.int .i64 r0, .int .i64 s0], .int .i64 0]) (by simp only [results, Try.results47]; go_simp) rfl ⟨rfl, (by repeat' (first | (with_reducible exact Below.refl _ _) | (with_reducible assumption) | (with_reducible refine below_drewN ?_ _) | (with_reducible refine Below.drew ?_) | (with_reducible refine Below.alloc ?_ ?_ _) | (with_reducible refine Below.setCell ?_ ?_ _) | (with_reducible refine Below.trans ?_ (Below.mono (by with_reducible assumption) ?_)) | go_size | (dsimp only; omega)))⟩
set_option maxHeartbeats 8000000 in
theorem FnExactNextInRow_w (n0 : Int) (w0 : (Lit.int .i64 n0).wf = true) (p1 q1 : Int) (W : World) :
    Calls Try.prog 13 #[.int .i64 n0, .agg #[.int .i64 p1, .int .i64 q1]] W fun e w' => e = .returned (.bool true) ∧ Below W.heap.size W w' := by
  obtain ⟨x0, x1, x2, K1, K2⟩ : ∃ (x0 : Int) (x1 : Int) (x2 : Int), Hid (∀ w, Calls Try.prog 48 #[.int .i64 n0, .agg #[.int .i64 p1, .int .i64 q1]] w fun e w' => e = .returned (.tuple #[.agg #[.int .i64 x0, .int .i64 x1], .int .i64 x2]) ∧ Below w.heap.size w w') ∧ Hid (∀ w, Calls Try.prog 47 #[.int .i64 n0, .agg #[.int .i64 p1, .int .i64 q1]] w fun e w' => e = .returned (.tuple #[.agg #[.int .i64 x0, .int .i64 x1], .int .i64 x2]) ∧ Below w.heap.size w w') := by
    cases h : isF p1 q1
    · exact ⟨_, _, _, fun w => NextInRow_no _ _ _ w h, fun w => sNextInRow_no _ _ _ w h⟩
    cases hA : rngA n0
    · exact ⟨_, _, _, fun w => NextInRow_range _ _ _ w h (.inl hA), fun w => sNextInRow_range _ _ _ w h (.inl hA)⟩
    cases hB : rngB n0 q1
    · exact ⟨_, _, _, fun w => NextInRow_range _ _ _ w h (.inr (.inl ⟨hA, hB⟩)), fun w => sNextInRow_range _ _ _ w h (.inr (.inl ⟨hA, hB⟩))⟩
    cases hC : rngC p1 q1
    · exact ⟨_, _, _, fun w => NextInRow_range _ _ _ w h (.inr (.inr ⟨hA, hB, hC⟩)), fun w => sNextInRow_range _ _ _ w h (.inr (.inr ⟨hA, hB, hC⟩))⟩
    by_cases he : p1 = q1
    · subst he
      have hg := (isF_iff.mp h).2.2.1
      rw [Int.gcd_self] at hg
      have hr := rng_iff hA hB hC
      have h1 : p1 = 1 := by omega
      subst h1
      exact ⟨_, _, _, fun w => NextInRow_one _ w hA hB, fun w => sNextInRow_one _ w hA hB⟩
    · obtain ⟨i1, i2, i3, i4⟩ := rng_iff hA hB hC
      have hB1 : 1 ≤ q1 := by omega
      obtain ⟨r0, s0, hN⟩ := nextF_ex i3 hB1 i2 (isF_iff.mp h).2.2.1
      exact ⟨_, _, _, fun w => NextInRow_yes _ _ _ _ _ w h hA hB hC (by omega) hN, fun w => sNextInRow_yes _ _ _ _ _ w h hA hB hC (by omega) hN⟩
  clear w0
  go_enter Try.func13, Try.ntmps13
  go_wp2_with fail
  refine (toFraction_c _ _ _).mono ?_
  rintro e w0 ⟨rfl, b0⟩
  have zzb0 := b0.size; (try simp at zzb0); have zb0_0 : W.heap.size < w0.heap.size := (by omega); have kcb0_0 : ∀ o, w0.cell? ⟨W.heap.size, o, none⟩ = _ := fun o => b0.cell (p := ⟨W.heap.size, o, none⟩) (by go_size); have kfb0_0 : ∀ o, w0.frozen? ⟨W.heap.size, o, none⟩ = _ := fun o => b0.frozen (p := ⟨W.heap.size, o, none⟩) (by go_size); clear zzb0
  go_wp2_with fail
  refine (K2.out _).mono ?_
  rintro e wa ⟨rfl, ba⟩
  have zzba := ba.size; (try simp at zzba); have zba_0 : W.heap.size < wa.heap.size := (by omega); have kcba_0 : ∀ o, wa.cell? ⟨W.heap.size, o, none⟩ = _ := fun o => ba.cell (p := ⟨W.heap.size, o, none⟩) (by go_size); have kfba_0 : ∀ o, wa.frozen? ⟨W.heap.size, o, none⟩ = _ := fun o => ba.frozen (p := ⟨W.heap.size, o, none⟩) (by go_size); clear zzba
  go_wp2_with fail
  refine (toFraction_c _ _ _).mono ?_
  rintro e w2 ⟨rfl, b2⟩
  have zzb2 := b2.size; (try simp at zzb2); have zb2_W0 : W.heap.size < w2.heap.size := (by omega); have kcb2_W0 : ∀ o, w2.cell? ⟨W.heap.size, o, none⟩ = _ := fun o => b2.cell (p := ⟨W.heap.size, o, none⟩) (by go_size); have kfb2_W0 : ∀ o, w2.frozen? ⟨W.heap.size, o, none⟩ = _ := fun o => b2.frozen (p := ⟨W.heap.size, o, none⟩) (by go_size); have zb2_wa0 : wa.heap.size < w2.heap.size := (by omega); have kcb2_wa0 : ∀ o, w2.cell? ⟨wa.heap.size, o, none⟩ = _ := fun o => b2.cell (p := ⟨wa.heap.size, o, none⟩) (by go_size); have kfb2_wa0 : ∀ o, w2.frozen? ⟨wa.heap.size, o, none⟩ = _ := fun o => b2.frozen (p := ⟨wa.heap.size, o, none⟩) (by go_size); clear zzb2
  go_wp2_with fail
  refine (K1.out _).mono ?_
  rintro e wb ⟨rfl, bb⟩
  have zzbb := bb.size; (try simp at zzbb); have zbb_W0 : W.heap.size < wb.heap.size := (by omega); have kcbb_W0 : ∀ o, wb.cell? ⟨W.heap.size, o, none⟩ = _ := fun o => bb.cell (p := ⟨W.heap.size, o, none⟩) (by go_size); have kfbb_W0 : ∀ o, wb.frozen? ⟨W.heap.size, o, none⟩ = _ := fun o => bb.frozen (p := ⟨W.heap.size, o, none⟩) (by go_size); have zbb_wa0 : wa.heap.size < wb.heap.size := (by omega); have kcbb_wa0 : ∀ o, wb.cell? ⟨wa.heap.size, o, none⟩ = _ := fun o => bb.cell (p := ⟨wa.heap.size, o, none⟩) (by go_size); have kfbb_wa0 : ∀ o, wb.frozen? ⟨wa.heap.size, o, none⟩ = _ := fun o => bb.frozen (p := ⟨wa.heap.size, o, none⟩) (by go_size); clear zzbb
  go_wp2_with fail
  refine (eqFraction_same _ _ _).mono ?_
  rintro e w5 ⟨rfl, b5⟩
  have zzb5 := b5.size; (try simp at zzb5); clear zzb5
  go_wp2
  go_returns
  exact ⟨rfl, (by repeat' (first | (with_reducible exact Below.refl _ _) | (with_reducible assumption) | (with_reducible refine below_drewN ?_ _) | (with_reducible refine Below.drew ?_) | (with_reducible refine Below.alloc ?_ ?_ _) | (with_reducible refine Below.setCell ?_ ?_ _) | (with_reducible refine Below.trans ?_ (Below.mono (by with_reducible assumption) ?_)) | go_size | (dsimp only; omega)))⟩
end Go.Proofs.Ytenmmldkgkbifaa
