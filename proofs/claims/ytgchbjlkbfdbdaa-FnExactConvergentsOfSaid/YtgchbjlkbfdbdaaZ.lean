/- The next fraction in a row. -/
import Derived.Test.YtgchbjlkbfdbdaaH
import Derived.Test.YtgchbjlkbfdbdaaW
import Derived.Deep.DeepCutAuto
namespace Go.Proofs.Ytgchbjlkbfdbdaa
open Go.RowKit
set_option linter.unusedVariables false
set_option linter.unusedSimpArgs false
attribute [local go_sem] run_min_int4 run_max_int4
attribute [local go_sem] run_equalIn_M
attribute [local go_sem] run_equalIn_Q
theorem bez (a b : Nat) : ∃ u v : Int, (a : Int) * u + (b : Int) * v = (Nat.gcd a b : Int) := by
  induction a, b using Nat.gcd.induction with
  | H0 n => exact ⟨0, 1, by simp⟩
  | H1 m n h ih =>
    obtain ⟨u, v, e⟩ := ih
    refine ⟨v - u * ((n / m : Nat) : Int), u, ?_⟩
    rw [Nat.gcd_rec m n, ← e]
    have h1 : ((n % m : Nat) : Int) = (n : Int) - (m : Int) * ((n / m : Nat) : Int) := by
      have := Nat.div_add_mod n m
      have h2 : ((m * (n / m) + n % m : Nat) : Int) = (n : Int) := by rw [this]
      rw [Int.natCast_add, Int.natCast_mul] at h2
      omega
    rw [h1]
    grind
theorem greatest (P : Nat → Prop) [DecidablePred P] (n : Nat) (h : ∃ s, s ≤ n ∧ P s) : ∃ s, s ≤ n ∧ P s ∧ ∀ t, t ≤ n → P t → t ≤ s := by
  induction n with
  | zero => obtain ⟨s, h1, h2⟩ := h; exact ⟨s, h1, h2, fun t ht _ => by omega⟩
  | succ n ih =>
    by_cases hp : P (n + 1)
    · exact ⟨n + 1, Nat.le_refl _, hp, fun t ht _ => ht⟩
    · obtain ⟨s, h1, h2⟩ := h
      have h3 : s ≠ n + 1 := by rintro rfl; exact hp h2
      obtain ⟨s', g1, g2, g3⟩ := ih ⟨s, by omega, h2⟩
      exact ⟨s', by omega, g2, fun t ht pt => by
        have : t ≠ n + 1 := by rintro rfl; exact hp pt
        exact g3 t (by omega) pt⟩
/-- the next in the row of n behind x/y is r0/s0 -/
structure NextF (n x y r0 s0 : Int) : Prop where
  one : r0 * y - x * s0 = 1
  pos : 1 ≤ s0
  le : s0 ≤ n
  max : ∀ s r : Int, 1 ≤ s → s ≤ n → r * y = 1 + x * s → s ≤ s0
theorem nextF_ex {n x y : Int} (hx : 0 ≤ x) (hy : 1 ≤ y) (hn : y ≤ n) (hg : Int.gcd x y = 1) : ∃ r0 s0, NextF n x y r0 s0 := by
  obtain ⟨a, rfl⟩ := Int.eq_ofNat_of_zero_le hx
  obtain ⟨b, rfl⟩ := Int.eq_ofNat_of_zero_le (show 0 ≤ y by omega)
  obtain ⟨m, rfl⟩ := Int.eq_ofNat_of_zero_le (show 0 ≤ n by omega)
  obtain ⟨u, v, e⟩ := bez a b
  rw [show Nat.gcd a b = 1 from hg] at e
  have hex : ∃ s, s ≤ m ∧ (1 ≤ s ∧ (b : Int) ∣ 1 + (a : Int) * (s : Int)) := by
    have h1 := Int.emod_nonneg (-u - 1) (show (b : Int) ≠ 0 by omega)
    have h2 := Int.emod_lt_of_pos (-u - 1) (show 0 < (b : Int) by omega)
    have h3 := Int.emod_def (-u - 1) (b : Int)
    refine ⟨((-u - 1) % (b : Int) + 1).toNat, by omega, by omega, ?_⟩
    rw [Int.toNat_of_nonneg (by omega), h3]
    exact ⟨v - (a : Int) * ((-u - 1) / (b : Int)), by grind⟩
  obtain ⟨s, h1, ⟨h2, r, hr⟩, h3⟩ := greatest _ m hex
  refine ⟨r, s, by grind, by omega, by omega, ?_⟩
  intro t r' t1 t2 ht
  have := h3 t.toNat (by omega) ⟨by omega, by rw [Int.toNat_of_nonneg (by omega)]; exact ⟨r', by rw [← ht, Int.mul_comm]⟩⟩
  omega
theorem nextF_far {n x y r0 s0 : Int} (h : NextF n x y r0 s0) : n < s0 + y ∨ y ≤ 0 := by
  by_cases hy : y ≤ 0
  · exact .inr hy
  · left
    apply Int.not_le.mp
    intro h1
    have := h.max (s0 + y) (r0 + x) (by have := h.pos; omega) h1 (by have := h.one; grind)
    omega
/-- the least with s that is greater is not less than the next -/
theorem nextF_le {n x y r0 s0 s : Int} (h : NextF n x y r0 s0) (hx : 0 ≤ x) (hy : 1 ≤ y) (hs : 1 ≤ s) (hn : s ≤ n) : r0 * s ≤ (x * s / y + 1) * s0 ∧ (s < s0 → r0 * s < (x * s / y + 1) * s0) := by
  have e := Int.emod_def (x * s) y
  have e0 := Int.emod_nonneg (x * s) (show y ≠ 0 by omega)
  have e1 := Int.emod_lt_of_pos (x * s) (show 0 < y by omega)
  generalize x * s / y = d at *
  generalize x * s % y = m at *
  have key : y * ((d + 1) * s0 - r0 * s) = s0 * (y - m) - s := by
    have := h.one; grind
  have hf := (nextF_far h).resolve_right (by omega)
  have hp := h.pos
  have hm : s0 * 1 ≤ s0 * (y - m) := Int.mul_le_mul_of_nonneg_left (by omega) (by omega)
  have h1 : -1 < (d + 1) * s0 - r0 * s := by
    apply Int.lt_of_mul_lt_mul_left (a := y) _ (by omega)
    rw [key]; omega
  refine ⟨by omega, fun hlt => ?_⟩
  have h2 : 0 < (d + 1) * s0 - r0 * s := by
    apply Int.lt_of_mul_lt_mul_left (a := y) _ (by omega)
    rw [key]; omega
  omega
theorem nextF_at {n x y r0 s0 : Int} (h : NextF n x y r0 s0) (hy : 1 < y) : x * s0 / y + 1 = r0 := by
  have h1 : x * s0 = (y - 1) + y * (r0 - 1) := by have := h.one; grind
  rw [h1, Int.add_mul_ediv_left _ _ (by omega), Int.ediv_eq_zero_of_lt (by omega) (by omega)]
  omega
theorem nextF_at1 {n x r0 s0 : Int} (h : NextF n x 1 r0 s0) : x * s0 / 1 + 1 = r0 := by
  have := h.one; rw [Int.ediv_one]; omega
theorem unit_mul {p s : Int} (h : p * s = 1) : (p = 1 ∧ s = 1) ∨ (p = -1 ∧ s = -1) := by
  have h1 : p.natAbs * s.natAbs = 1 := by rw [← Int.natAbs_mul, h]; rfl
  have h2 := Nat.eq_one_of_mul_eq_one_right h1
  have h3 := Nat.eq_one_of_mul_eq_one_left h1
  rcases (show p = 1 ∨ p = -1 by omega) with hp | hp <;> rcases (show s = 1 ∨ s = -1 by omega) with hs | hs <;> subst hp hs <;> simp at h ⊢
/-- at the start -/
theorem nextF_start {n x y r0 s0 : Int} (h : NextF n x y r0 s0) (hx : 0 ≤ x) (hxy : x < y) : r0 ≤ s0 ∧ (r0 = s0 → r0 = 1 ∧ s0 = 1) ∧ 1 ≤ r0 := by
  have h0 := h.one
  have hp := h.pos
  have h1 : (x + 1) * s0 ≤ y * s0 := Int.mul_le_mul_of_nonneg_right (by omega) (by omega)
  have h2 : y * r0 ≤ y * s0 := by grind
  have h3 : r0 ≤ s0 := Int.le_of_mul_le_mul_left h2 (by omega)
  have h5 : 0 ≤ x * s0 := Int.mul_nonneg hx (by omega)
  refine ⟨h3, fun e => ?_, ?_⟩
  · subst e
    have h4 : r0 * (y - x) = 1 := by grind
    rcases unit_mul h4 with ⟨a, b⟩ | ⟨a, b⟩ <;> omega
  · apply Int.not_lt.mp
    intro h6
    have : r0 * y ≤ 0 * y := Int.mul_le_mul_of_nonneg_right (by omega) (by omega)
    omega
set_option maxHeartbeats 2000000 in
theorem l03Next_c (n x y r0 s0 : Int) (w : World) (h : NextF n x y r0 s0) (hx : 0 ≤ x) (hxy : x < y) (hn : n ≤ 1000) (hy : y ≤ n) :
    Calls Try.prog 37 #[.int .i64 n, .agg #[.int .i64 x, .int .i64 y]] w fun e w' => e = .returned (.agg #[.int .i64 r0, .int .i64 s0]) ∧ Below w.heap.size w w' := by
  have H := Lib.hid h
  have p0 := h.pos
  have p1 := h.le
  clear h
  go_enter Try.func37, Try.ntmps37
  go_wp2
  go_loop [5] (fun i => ∃ k : Int, i = .int .i64 k ∧ s0 ≤ k ∧ k ≤ n) (fun i => (intOf i).toNat)
  case atStart => exact ⟨n, rfl, p1, Int.le_refl _⟩
  case round =>
    obtain ⟨k, rfl, k0, k1⟩ := hrel
    have a0 : 0 ≤ x * k := Int.mul_nonneg hx (by omega)
    have a1 : x * k ≤ 1000 * 1000 := Int.mul_le_mul (by omega) (by omega) (by omega) (by omega)
    have yz : (y == 0) = false := by simp; omega
    by_cases hk : k = s0
    · subst hk
      have o := H.out.one
      have e0 : 1 + x * k = y * r0 := by grind
      have e1 : (1 + x * k).tmod y = 0 := by rw [e0]; exact Int.mul_tmod_right _ _
      have e2 : (1 + x * k).tdiv y = r0 := by rw [e0]; exact Int.mul_tdiv_cancel_left _ (by omega)
      have r1 := Int.tdiv_nonneg (show 0 ≤ 1 + x * k by omega) (show 0 ≤ y by omega)
      have r2 : (1 + x * k).tdiv y ≤ 1 + x * k := by rw [Int.tdiv_eq_ediv_of_nonneg (by omega)]; exact Int.ediv_le_self _ (by omega)
      have E2 := Lib.hid e2
      clear o e0 e2
      go_wp2
      exact bodyPost_ret (v := .agg #[.int .i64 ((1 + x * k).tdiv y), .int .i64 k]) (by simp only [results, Try.results37]; go_simp) rfl ⟨by rw [E2.out], (by repeat' (first | (with_reducible exact Below.refl _ _) | (with_reducible assumption) | (with_reducible refine below_drewN ?_ _) | (with_reducible refine Below.drew ?_) | (with_reducible refine Below.alloc ?_ ?_ _) | (with_reducible refine Below.setCell ?_ ?_ _) | (with_reducible refine Below.trans ?_ (Below.mono (by with_reducible assumption) ?_)) | go_size | (dsimp only; omega)))⟩
    · have e1 : ((1 + x * k) % y == 0) = false := by
        simp only [beq_eq_false_iff_ne, ne_eq]
        intro e
        have d := Int.mul_ediv_add_emod (1 + x * k) y
        have := H.out.max k ((1 + x * k) / y) (by omega) k1 (by grind)
        omega
      have kp : 0 < k := by omega
      go_wp2
      all_goals exact ⟨⟨k - 1, rfl, by omega, by omega⟩, by simp only [intOf]; omega⟩
theorem ret_qq {a b c d : Int} (h : a = b) (h' : c = d) : Ending.returned (.agg #[.int .i64 a, .int .i64 c]) = .returned (.agg #[.int .i64 b, .int .i64 d]) := by rw [h, h']
set_option maxHeartbeats 4000000 in
theorem nextInRow_c (n x y r0 s0 : Int) (w : World) (h : NextF n x y r0 s0) (hx : 0 ≤ x) (hxy : x < y) (hn : n ≤ 1000) (hy : y ≤ n) :
    Calls Try.prog 38 #[.int .i64 n, .agg #[.int .i64 x, .int .i64 y]] w fun e w' => e = .returned (.agg #[.int .i64 r0, .int .i64 s0]) ∧ Below w.heap.size w w' := by
  have H := Lib.hid h
  have p0 := h.pos
  have p1 := h.le
  have hst := nextF_start h hx hxy
  clear h
  go_enter Try.func38, Try.ntmps38
  go_wp2
  go_loopw [6] (fun i wr => ∃ k bp bq : Int, i = .int .i64 k ∧ 1 ≤ k ∧ k ≤ n + 1 ∧ 0 ≤ bp ∧ bp ≤ 1001 ∧ 1 ≤ bq ∧ bq ≤ 1000 ∧ Hid ((k ≤ s0 ∧ r0 * bq < bp * s0) ∨ (bp = r0 ∧ bq = s0)) ∧
      wr.cell? ⟨w.heap.size, 0, none⟩ = some (.int .i64 x) ∧ wr.cell? ⟨w.heap.size, 1, none⟩ = some (.int .i64 y) ∧
      wr.cell? ⟨w.heap.size + 1, 0, none⟩ = some (.int .i64 0) ∧ wr.cell? ⟨w.heap.size + 1, 1, none⟩ = some (.int .i64 0) ∧
      wr.cell? ⟨w.heap.size + 2, 0, none⟩ = some (.int .i64 bp) ∧ wr.cell? ⟨w.heap.size + 2, 1, none⟩ = some (.int .i64 bq) ∧
      (∀ i, wr.frozen? ⟨w.heap.size + 1, i, none⟩ = false) ∧ (∀ i, wr.frozen? ⟨w.heap.size + 2, i, none⟩ = false) ∧
      Below w.heap.size w wr ∧ w.heap.size + 2 < wr.heap.size) (fun i wr => (n + 1 - intOf i).toNat)
  case atStart =>
    refine ⟨1, 1, 1, rfl, by omega, by omega, by omega, by omega, by omega, by omega, ?_, ?_, ?_, ?_, ?_, ?_, ?_, ?_, ?_, ?_, ?_⟩
    · show (1 ≤ s0 ∧ r0 * 1 < 1 * s0) ∨ (1 = r0 ∧ 1 = s0)
      omega
    all_goals first | (go_simp; done) | (intro i; go_simp; done) | exact (by repeat' (first | (with_reducible exact Below.refl _ _) | (with_reducible assumption) | (with_reducible refine below_drewN ?_ _) | (with_reducible refine Below.drew ?_) | (with_reducible refine Below.alloc ?_ ?_ _) | (with_reducible refine Below.setCell ?_ ?_ _) | (with_reducible refine Below.trans ?_ (Below.mono (by with_reducible assumption) ?_)) | go_size | (dsimp only; omega))) | go_size
  case round =>
    obtain ⟨k, bp, bq, rfl, k0, k1, bp0, bp1, bq0, bq1, HB, c0, c1, d0, d1, g0, g1, fd, fg, hB, hg⟩ := hrel
    have hw : w.heap.size < wr.heap.size := by omega
    have hw1 : w.heap.size + 1 < wr.heap.size := by omega
    have n1 : ¬ w.heap.size = wr.heap.size := by omega
    have n2 : ¬ w.heap.size + 1 = wr.heap.size := by omega
    have n3 : ¬ w.heap.size + 2 = wr.heap.size := by omega
    by_cases hk : k ≤ n
    · have a0 : 0 ≤ x * k := Int.mul_nonneg hx (by omega)
      have a1 : x * k ≤ 1000 * 1000 := Int.mul_le_mul (by omega) (by omega) (by omega) (by omega)
      have yz : (y == 0) = false := by simp; omega
      have t := Int.tdiv_eq_ediv_of_nonneg a0 (b := y)
      have t0 : 0 ≤ (x * k).tdiv y := by rw [t]; exact Int.ediv_nonneg a0 (by omega)
      have t1 : (x * k).tdiv y ≤ 1000 := by
        rw [t]
        apply Int.ediv_le_of_le_mul (by omega)
        have : x * k ≤ y * 1000 := Int.mul_le_mul (by omega) (by omega) (by omega) (by omega)
        omega
      have key := nextF_le H.out hx (by omega) k0 hk
      have kat : k = s0 → (x * k).tdiv y + 1 = r0 := by
        rintro rfl
        rw [t]
        by_cases hy1 : y = 1
        · subst hy1; exact nextF_at1 H.out
        · exact nextF_at H.out (by omega)
      rw [← t] at key
      have KEY := Lib.hid key
      have KAT := Lib.hid kat
      clear key kat t
      have m0 : 0 ≤ ((x * k).tdiv y + 1) * bq := Int.mul_nonneg (by omega) (by omega)
      have m1 : ((x * k).tdiv y + 1) * bq ≤ 1001 * 1000 := Int.mul_le_mul (by omega) (by omega) (by omega) (by omega)
      have m2 : 0 ≤ bp * k := Int.mul_nonneg (by omega) (by omega)
      have m3 : bp * k ≤ 1001 * 1000 := Int.mul_le_mul (by omega) (by omega) (by omega) (by omega)
      go_wp2_with fail
      refine (compare_c ((x * k).tdiv y + 1) k bp bq _ (by omega) (by omega) (by omega)).mono ?_
      rintro e w2 ⟨rfl, b2⟩
      have zzb2 := b2.size; (try simp at zzb2); have zb2_w0 : w.heap.size < w2.heap.size := (by omega); have kcb2_w0 : ∀ o, w2.cell? ⟨w.heap.size, o, none⟩ = _ := fun o => b2.cell (p := ⟨w.heap.size, o, none⟩) (by go_size); have kfb2_w0 : ∀ o, w2.frozen? ⟨w.heap.size, o, none⟩ = _ := fun o => b2.frozen (p := ⟨w.heap.size, o, none⟩) (by go_size); have zb2_w1 : w.heap.size + 1 < w2.heap.size := (by omega); have kcb2_w1 : ∀ o, w2.cell? ⟨w.heap.size + 1, o, none⟩ = _ := fun o => b2.cell (p := ⟨w.heap.size + 1, o, none⟩) (by go_size); have kfb2_w1 : ∀ o, w2.frozen? ⟨w.heap.size + 1, o, none⟩ = _ := fun o => b2.frozen (p := ⟨w.heap.size + 1, o, none⟩) (by go_size); have zb2_w2 : w.heap.size + 2 < w2.heap.size := (by omega); have kcb2_w2 : ∀ o, w2.cell? ⟨w.heap.size + 2, o, none⟩ = _ := fun o => b2.cell (p := ⟨w.heap.size + 2, o, none⟩) (by go_size); have kfb2_w2 : ∀ o, w2.frozen? ⟨w.heap.size + 2, o, none⟩ = _ := fun o => b2.frozen (p := ⟨w.heap.size + 2, o, none⟩) (by go_size); have zb2_wr0 : wr.heap.size < w2.heap.size := (by omega); have kcb2_wr0 : ∀ o, w2.cell? ⟨wr.heap.size, o, none⟩ = _ := fun o => b2.cell (p := ⟨wr.heap.size, o, none⟩) (by go_size); have kfb2_wr0 : ∀ o, w2.frozen? ⟨wr.heap.size, o, none⟩ = _ := fun o => b2.frozen (p := ⟨wr.heap.size, o, none⟩) (by go_size); clear zzb2
      by_cases hlt : ((x * k).tdiv y + 1) * bq < bp * k
      · have hc : cmpF ((x * k).tdiv y + 1) k bp bq = -1 := by unfold cmpF sgn; rw [if_pos (by omega)]
        rw [hc]
        clear hc
        have HB' : Hid ((k + 1 ≤ s0 ∧ r0 * k < ((x * k).tdiv y + 1) * s0) ∨ ((x * k).tdiv y + 1 = r0 ∧ k = s0)) := by
          have key := KEY.out
          have kat := KAT.out
          by_cases hks : k = s0
          · exact Lib.hid (.inr ⟨kat hks, hks⟩)
          · by_cases hks2 : k < s0
            · exact Lib.hid (.inl ⟨by omega, key.2 hks2⟩)
            · rcases HB.out with ⟨h1, h2⟩ | ⟨rfl, rfl⟩
              · omega
              · omega
        clear hlt
        go_wp2
        go_roundw
        case rel =>
          refine ⟨k + 1, (x * k).tdiv y + 1, k, by go_num, by omega, by omega, by omega, by omega, by omega, by omega, HB', ?_, ?_, ?_, ?_, ?_, ?_, ?_, ?_, ?_, ?_⟩
          all_goals first | (go_simp; done) | (intro i; go_simp; done) | exact (by repeat' (first | (with_reducible exact Below.refl _ _) | (with_reducible assumption) | (with_reducible refine below_drewN ?_ _) | (with_reducible refine Below.drew ?_) | (with_reducible refine Below.alloc ?_ ?_ _) | (with_reducible refine Below.setCell ?_ ?_ _) | (with_reducible refine Below.trans ?_ (Below.mono (by with_reducible assumption) ?_)) | go_size | (dsimp only; omega))) | go_size
        case measure => simp [intOf]; omega
      · have hc : cmpF ((x * k).tdiv y + 1) k bp bq = 0 ∨ cmpF ((x * k).tdiv y + 1) k bp bq = 1 := by unfold cmpF sgn; rw [if_neg (by omega)]; split <;> omega
        have HB' : Hid ((k + 1 ≤ s0 ∧ r0 * bq < bp * s0) ∨ (bp = r0 ∧ bq = s0)) := by
          have kat := KAT.out
          rcases HB.out with ⟨h1, h2⟩ | h1
          · by_cases hks : k = s0
            · subst hks
              rw [kat rfl] at hlt
              exact absurd h2 hlt
            · exact Lib.hid (.inl ⟨by omega, h2⟩)
          · exact Lib.hid (.inr h1)
        clear hlt
        rcases hc with hc | hc
        all_goals
          rw [hc]
          clear hc
          go_wp2
          go_roundw
          case rel =>
            refine ⟨k + 1, bp, bq, by go_num, by omega, by omega, by omega, by omega, by omega, by omega, HB', ?_, ?_, ?_, ?_, ?_, ?_, ?_, ?_, ?_, ?_⟩
            all_goals first | (go_simp; done) | (intro i; go_simp; done) | exact (by repeat' (first | (with_reducible exact Below.refl _ _) | (with_reducible assumption) | (with_reducible refine below_drewN ?_ _) | (with_reducible refine Below.drew ?_) | (with_reducible refine Below.alloc ?_ ?_ _) | (with_reducible refine Below.setCell ?_ ?_ _) | (with_reducible refine Below.trans ?_ (Below.mono (by with_reducible assumption) ?_)) | go_size | (dsimp only; omega))) | go_size
          case measure => simp [intOf]; omega
    · have hend : bp = r0 ∧ bq = s0 := by
        rcases HB.out with h1 | h1
        · omega
        · exact h1
      have HEND := Lib.hid hend
      clear hend
      go_wp2
      exact bodyPost_ret (v := .agg #[.int .i64 bp, .int .i64 bq]) (by simp only [results, Try.results38]; go_simp) rfl ⟨ret_qq HEND.out.1 HEND.out.2, (by repeat' (first | (with_reducible exact Below.refl _ _) | (with_reducible assumption) | (with_reducible refine below_drewN ?_ _) | (with_reducible refine Below.drew ?_) | (with_reducible refine Below.alloc ?_ ?_ _) | (with_reducible refine Below.setCell ?_ ?_ _) | (with_reducible refine Below.trans ?_ (Below.mono (by with_reducible assumption) ?_)) | go_size | (dsimp only; omega)))⟩
def rngA (n : Int) : Bool := decide (1 ≤ n) && decide (n ≤ 1000)
def rngB (n y : Int) : Bool := decide (1 ≤ y) && decide (y ≤ n)
def rngC (x y : Int) : Bool := decide (0 ≤ x) && decide (x ≤ y)
theorem rng_iff {n x y : Int} (hA : rngA n = true) (hB : rngB n y = true) (hC : rngC x y = true) : n ≤ 1000 ∧ y ≤ n ∧ 0 ≤ x ∧ x ≤ y := by
  unfold rngA at hA; unfold rngB at hB; unfold rngC at hC
  simp at hA hB hC
  omega
end Go.Proofs.Ytgchbjlkbfdbdaa
