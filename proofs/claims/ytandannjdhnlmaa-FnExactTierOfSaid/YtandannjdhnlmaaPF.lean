/- FractionOfPath: the fraction at the end of a path, in plain Lean; the walks. -/
import Derived.Test.YtandannjdhnlmaaH
import Derived.Test.YtandannjdhnlmaaW
import Derived.Deep.RegionHeld3
namespace Go.Proofs.Ytandannjdhnlmaa
open Go.RowKit
set_option linter.unusedVariables false
set_option linter.unusedSimpArgs false
/-- the way down from two parents -/
def fol : Int → Int → Int → Int → List UInt8 → Int × Int
  | a, b, c, d, [] => (a + c, b + d)
  | a, b, c, d, x :: l => if x = 76 then fol a b (a + c) (b + d) l else fol (a + c) (b + d) c d l
/-- two parents after some letters -/
structure Par (k : Nat) (a b c d : Int) : Prop where
  a0 : 0 ≤ a
  b0 : 0 ≤ b
  c0 : 0 ≤ c
  d0 : 0 ≤ d
  a1 : a ≤ 2 ^ k
  b1 : b ≤ 2 ^ k
  c1 : c ≤ 2 ^ k
  d1 : d ≤ 2 ^ k
  det : c * b - a * d = 1
theorem Par.start : Par 0 0 1 1 0 := ⟨by decide, by decide, by decide, by decide, by decide, by decide, by decide, by decide, by decide⟩
theorem Par.left {k : Nat} {a b c d : Int} (h : Par k a b c d) : Par (k + 1) a b (a + c) (b + d) := by
  obtain ⟨h1, h2, h3, h4, h5, h6, h7, h8, h9⟩ := h
  have e : (2 : Int) ^ (k + 1) = 2 ^ k + 2 ^ k := by rw [Int.pow_succ]; omega
  refine ⟨h1, h2, by omega, by omega, by omega, by omega, by omega, by omega, ?_⟩
  rw [Int.add_mul, Int.mul_add]; omega
theorem Par.right {k : Nat} {a b c d : Int} (h : Par k a b c d) : Par (k + 1) (a + c) (b + d) c d := by
  obtain ⟨h1, h2, h3, h4, h5, h6, h7, h8, h9⟩ := h
  have e : (2 : Int) ^ (k + 1) = 2 ^ k + 2 ^ k := by rw [Int.pow_succ]; omega
  refine ⟨by omega, by omega, h3, h4, by omega, by omega, by omega, by omega, ?_⟩
  rw [Int.add_mul, Int.mul_add]; omega
theorem Par.gcd {k : Nat} {a b c d : Int} (h : Par k a b c d) : Int.gcd (a + c) (b + d) = 1 := by
  have e : (a + c) * b - a * (b + d) = 1 := by rw [Int.add_mul, Int.mul_add]; have := h.det; omega
  have h1 : ((Int.gcd (a + c) (b + d) : Nat) : Int) ∣ (a + c) * b := Int.dvd_mul_of_dvd_left (Int.gcd_dvd_left ..)
  have h2 : ((Int.gcd (a + c) (b + d) : Nat) : Int) ∣ a * (b + d) := Int.dvd_mul_of_dvd_right (Int.gcd_dvd_right ..)
  have h3 := Int.dvd_sub h1 h2
  rw [e] at h3
  have := Int.eq_one_of_dvd_one (by omega) h3
  omega
theorem Par.pos {k : Nat} {a b c d : Int} (h : Par k a b c d) : 1 ≤ b + d := by
  rcases (show 1 ≤ b + d ∨ (b = 0 ∧ d = 0) by have := h.b0; have := h.d0; omega) with h1 | ⟨h1, h2⟩
  · exact h1
  · have := h.det; subst h1 h2; simp at this
theorem pow_le {k n : Nat} (h : k ≤ n) : (2 : Int) ^ k ≤ 2 ^ n := by
  have := Nat.pow_le_pow_right (show 0 < 2 by decide) h
  exact_mod_cast this
theorem Par.le {k : Nat} {a b c d : Int} (h : Par k a b c d) (hk : k ≤ 40) : a ≤ 1099511627776 ∧ b ≤ 1099511627776 ∧ c ≤ 1099511627776 ∧ d ≤ 1099511627776 := by
  have h1 := pow_le hk
  have e : (2 : Int) ^ 40 = 1099511627776 := by decide
  rw [e] at h1
  have := h.a1; have := h.b1; have := h.c1; have := h.d1
  exact ⟨by omega, by omega, by omega, by omega⟩
theorem byte_ne {x : UInt8} (h : ¬ x = 76) : ((x.toNat : Int) == 76) = false := by
  rw [beq_eq_false_iff_ne]
  intro e
  exact h (UInt8.toNat_inj.mp (show x.toNat = 76 by omega))
set_option maxRecDepth 100000 in
set_option maxHeartbeats 4000000 in
theorem follow_c (s : ByteArray) (p q : Int) (w : World) (hs : s.size ≤ 40) (hf : fol 0 1 1 0 s.data.toList = (p, q)) :
    Calls Try.prog 12 #[.string s] w fun e w' => e = .returned (.agg #[.int .i64 p, .int .i64 q]) ∧ Below w.heap.size w w' := by
  have HF := Lib.hid hf
  have HP := Lib.hid Par.start
  clear hf
  go_enter Try.func12, Try.ntmps12
  go_wp2
  generalize hw0 : World.alloc _ _ = w0
  have r0 : w0.cell? ⟨w.heap.size, 0, none⟩ = some (.int .i64 0) := by subst hw0; go_simp
  have r1 : w0.cell? ⟨w.heap.size, 1, none⟩ = some (.int .i64 0) := by subst hw0; go_simp
  have l0 : w0.cell? ⟨w.heap.size + 1, 0, none⟩ = some (.int .i64 0) := by subst hw0; go_simp
  have l1 : w0.cell? ⟨w.heap.size + 1, 1, none⟩ = some (.int .i64 1) := by subst hw0; go_simp
  have c0 : w0.cell? ⟨w.heap.size + 1 + 1, 0, none⟩ = some (.int .i64 1) := by subst hw0; go_simp
  have c1 : w0.cell? ⟨w.heap.size + 1 + 1, 1, none⟩ = some (.int .i64 0) := by subst hw0; go_simp
  have rf : ∀ i, w0.frozen? ⟨w.heap.size, i, none⟩ = false := by subst hw0; intro i; go_simp
  have lf : ∀ i, w0.frozen? ⟨w.heap.size + 1, i, none⟩ = false := by subst hw0; intro i; go_simp
  have cf : ∀ i, w0.frozen? ⟨w.heap.size + 1 + 1, i, none⟩ = false := by subst hw0; intro i; go_simp
  have hB0 : Below w.heap.size w w0 := by subst hw0; exact (by repeat' (first | (with_reducible exact Below.refl _ _) | (with_reducible assumption) | (with_reducible refine below_drewN ?_ _) | (with_reducible refine Below.drew ?_) | (with_reducible refine Below.alloc ?_ ?_ _) | (with_reducible refine Below.setCell ?_ ?_ _) | (with_reducible refine Below.trans ?_ (Below.mono (by with_reducible assumption) ?_)) | go_size | (dsimp only; omega)))
  have hs0 : w.heap.size + 1 + 1 < w0.heap.size := by subst hw0; go_size
  clear hw0
  go_loopw [11] (fun i wr => ∃ (k : Nat) (a b c d : Int), i = .int .i64 k ∧ k ≤ s.size ∧ Hid (Par k a b c d) ∧ Hid (fol a b c d (s.data.toList.drop k) = (p, q)) ∧ wr.cell? ⟨w.heap.size, 0, none⟩ = some (.int .i64 0) ∧ wr.cell? ⟨w.heap.size, 1, none⟩ = some (.int .i64 0) ∧ wr.cell? ⟨w.heap.size + 1, 0, none⟩ = some (.int .i64 a) ∧ wr.cell? ⟨w.heap.size + 1, 1, none⟩ = some (.int .i64 b) ∧ wr.cell? ⟨w.heap.size + 1 + 1, 0, none⟩ = some (.int .i64 c) ∧ wr.cell? ⟨w.heap.size + 1 + 1, 1, none⟩ = some (.int .i64 d) ∧ (∀ i, wr.frozen? ⟨w.heap.size, i, none⟩ = false) ∧ (∀ i, wr.frozen? ⟨w.heap.size + 1, i, none⟩ = false) ∧ (∀ i, wr.frozen? ⟨w.heap.size + 1 + 1, i, none⟩ = false) ∧ Below w.heap.size w wr ∧ w.heap.size + 1 + 1 < wr.heap.size) (fun i wr => s.size - (intOf i).toNat)
  case atStart => exact ⟨0, 0, 1, 1, 0, rfl, by omega, HP, Lib.hid (by simpa using HF.out), r0, r1, l0, l1, c0, c1, rf, lf, cf, hB0, hs0⟩
  case round =>
    clear r0 r1 l0 l1 c0 c1 rf lf cf hB0 hs0 HP
    obtain ⟨k, a, b, c, d, rfl, hk, HP, HF2, r0, r1, l0, l1, c0, c1, rf, lf, cf, hB, hs2⟩ := hrel
    obtain ⟨ha1, hb1, hc1, hd1⟩ := HP.out.le (by omega)
    have ha0 := HP.out.a0
    have hb0 := HP.out.b0
    have hc0 := HP.out.c0
    have hd0 := HP.out.d0
    have hs1 : w.heap.size + 1 < wr.heap.size := by omega
    have hs0 : w.heap.size < wr.heap.size := by omega
    by_cases hlt : k < s.size
    · have hki : (k : Int) < (s.size : Int) := by omega
      have hlen : k < s.data.toList.length := by simpa using hlt
      have hel : s.data.toList[k] = s[k] := rfl
      have hdr : s.data.toList.drop k = s[k] :: s.data.toList.drop (k + 1) := by rw [List.drop_eq_getElem_cons hlen, hel]
      have HDR := Lib.hid hdr
      clear hdr hel
      by_cases hx : s[k] = 76
      · have HP2 := Lib.hid HP.out.left
        have HF3 : Hid (fol a b (a + c) (b + d) (s.data.toList.drop (k + 1)) = (p, q)) := by
          have := HF2.out
          rw [HDR.out, fol, if_pos hx] at this
          exact Lib.hid this
        have hbt : ((s[k].toNat : Int) == 76) = true := by rw [hx]; rfl
        go_wp2
        go_roundw
        case rel => exact ⟨k + 1, a, b, a + c, b + d, by go_num, by omega, HP2, HF3, by go_simp, by go_simp, by go_simp, by go_simp, by go_simp, by go_simp, (by intro i; go_simp), (by intro i; go_simp), (by intro i; go_simp), (by repeat' (first | (with_reducible exact Below.refl _ _) | (with_reducible assumption) | (with_reducible refine below_drewN ?_ _) | (with_reducible refine Below.drew ?_) | (with_reducible refine Below.alloc ?_ ?_ _) | (with_reducible refine Below.setCell ?_ ?_ _) | (with_reducible refine Below.trans ?_ (Below.mono (by with_reducible assumption) ?_)) | go_size | (dsimp only; omega))), by go_size⟩
        case measure => simp [intOf]; omega
      · have HP2 := Lib.hid HP.out.right
        have HF3 : Hid (fol (a + c) (b + d) c d (s.data.toList.drop (k + 1)) = (p, q)) := by
          have := HF2.out
          rw [HDR.out, fol, if_neg hx] at this
          exact Lib.hid this
        have hbt : ((s[k].toNat : Int) == 76) = false := byte_ne hx
        go_wp2
        go_roundw
        case rel => exact ⟨k + 1, a + c, b + d, c, d, by go_num, by omega, HP2, HF3, by go_simp, by go_simp, by go_simp, by go_simp, by go_simp, by go_simp, (by intro i; go_simp), (by intro i; go_simp), (by intro i; go_simp), (by repeat' (first | (with_reducible exact Below.refl _ _) | (with_reducible assumption) | (with_reducible refine below_drewN ?_ _) | (with_reducible refine Below.drew ?_) | (with_reducible refine Below.alloc ?_ ?_ _) | (with_reducible refine Below.setCell ?_ ?_ _) | (with_reducible refine Below.trans ?_ (Below.mono (by with_reducible assumption) ?_)) | go_size | (dsimp only; omega))), by go_size⟩
        case measure => simp [intOf]; omega
    · obtain rfl : k = s.size := by omega
      have hd2 : s.data.toList.drop s.size = [] := List.drop_of_length_le (by simp)
      have h2 := HF2.out
      rw [hd2, fol] at h2
      obtain ⟨rfl, rfl⟩ := Prod.mk.inj h2
      clear h2 hd2 HF HF2 HP
      go_wp2
      exact bodyPost_ret (v := .agg #[.int .i64 (a + c), .int .i64 (b + d)]) (by simp only [results, Try.results12]; go_simp) rfl ⟨rfl, (by repeat' (first | (with_reducible exact Below.refl _ _) | (with_reducible assumption) | (with_reducible refine below_drewN ?_ _) | (with_reducible refine Below.drew ?_) | (with_reducible refine Below.alloc ?_ ?_ _) | (with_reducible refine Below.setCell ?_ ?_ _) | (with_reducible refine Below.trans ?_ (Below.mono (by with_reducible assumption) ?_)) | go_size | (dsimp only; omega)))⟩
theorem gcd_red {x y : Int} (hg : Int.gcd x y = 1) (hy : 1 ≤ y) : redP x y = x ∧ redQ x y = y := by
  unfold redP redQ
  rw [if_neg (by omega), if_neg (by omega), hg]
  simp
end Go.Proofs.Ytandannjdhnlmaa
