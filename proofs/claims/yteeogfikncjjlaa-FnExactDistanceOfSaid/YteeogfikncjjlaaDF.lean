/- DistanceOf: the reference's matrix that leads a fraction to infinity. -/
import Derived.Test.YteeogfikncjjlaaDE
import Derived.Deep.RegionHeld3
import Derived.Deep.DeepCutAuto
import Derived.StillTailTactics
import Derived.IntWalk
namespace Go.Proofs.Yteeogfikncjjlaa
open Go.RowKit
open Plain
set_option linter.unusedVariables false
set_option linter.unusedSimpArgs false
theorem cont_inv {x y : Int} {l : List Int} (h : Cont x y l) : (y = 0 ∧ l = []) ∨ (0 < y ∧ ∃ l', l = flo x y :: l' ∧ Cont y (x - flo x y * y) l') := by
  cases h with
  | stop => exact .inl ⟨rfl, rfl⟩
  | step _ _ l hy h2 => exact .inr ⟨hy, l, rfl, h2⟩
theorem toInf_zero (p q : Int) (w : World) (h : isF p q = true) (hq : q = 0) :
    Calls Try.prog 9 #[.agg #[.int .i64 p, .int .i64 q]] w fun e w' => e = .returned (.agg #[.int .i64 1, .int .i64 0, .int .i64 0, .int .i64 1]) ∧ Below w.heap.size w w' := by
  subst hq
  clear h
  go_enter Try.func9, Try.ntmps9
  go_wp2
  exact bodyPost_ret (v := .agg #[.int .i64 1, .int .i64 0, .int .i64 0, .int .i64 1]) (by simp only [results, Try.results9]; go_simp) rfl ⟨rfl, (by repeat' (first | (with_reducible exact Below.refl _ _) | (with_reducible assumption) | (with_reducible refine below_drewN ?_ _) | (with_reducible refine Below.drew ?_) | (with_reducible refine Below.alloc ?_ ?_ _) | (with_reducible refine Below.setCell ?_ ?_ _) | (with_reducible refine Below.trans ?_ (Below.mono (by with_reducible assumption) ?_)) | go_size | (dsimp only; omega)))⟩
set_option maxRecDepth 100000 in
set_option maxHeartbeats 4000000 in
theorem toInf_c (p q : Int) (w : World) (h : isF p q = true) (hp : -10000 ≤ p ∧ p ≤ 10000) (hq : q ≤ 10000) (hq0 : 0 < q) :
    Calls Try.prog 9 #[.agg #[.int .i64 p, .int .i64 q]] w fun e w' => ∃ r s : Int, e = .returned (.agg #[.int .i64 s, .int .i64 (-r), .int .i64 (-q), .int .i64 p]) ∧ p * s - q * r = 1 ∧ (-10001 ≤ r ∧ r ≤ 10001) ∧ (-10001 ≤ s ∧ s ≤ 10001) ∧ Below w.heap.size w w' := by
  obtain ⟨-, -, hg, -⟩ := isF_iff.mp h
  obtain ⟨zs, hc, hzl⟩ := cont_exists q.toNat p q (by omega) (by omega)
  have hzl' : zs.length ≤ 10000 := by omega
  have hzp : 0 < zs.length := by
    rcases cont_inv hc with ⟨h1, -⟩ | ⟨-, l, rfl, -⟩
    · omega
    · simp
  have HV := Lib.hid (Cv.start hq0 hg)
  have HC := Lib.hid hc
  have HF := Lib.hid h
  have qz : (q == 0) = false := by simp; omega
  clear hg hc h hzl
  go_enter Try.func9, Try.ntmps9
  go_wp2_with fail
  refine (l03Continued_c p q _ zs HF.out HC.out (by omega)).mono ?_
  rintro e w1 ⟨v, rfl, hO, b1⟩
  rcases hO with ⟨e0, -⟩ | ⟨g, cc, rfl, hg1, hg2, hrow, -⟩
  · rw [e0] at hzp; simp at hzp
  have zzb1 := b1.size; (try simp at zzb1); have zb1_0 : w.heap.size < w1.heap.size := (by omega); have kcb1_0 : ∀ o, w1.cell? ⟨w.heap.size, o, none⟩ = _ := fun o => b1.cell (p := ⟨w.heap.size, o, none⟩) (by go_size); have kfb1_0 : ∀ o, w1.frozen? ⟨w.heap.size, o, none⟩ = _ := fun o => b1.frozen (p := ⟨w.heap.size, o, none⟩) (by go_size); have zb1_1 : w.heap.size + 1 < w1.heap.size := (by omega); have kcb1_1 : ∀ o, w1.cell? ⟨w.heap.size + 1, o, none⟩ = _ := fun o => b1.cell (p := ⟨w.heap.size + 1, o, none⟩) (by go_size); have kfb1_1 : ∀ o, w1.frozen? ⟨w.heap.size + 1, o, none⟩ = _ := fun o => b1.frozen (p := ⟨w.heap.size + 1, o, none⟩) (by go_size); clear zzb1
  obtain ⟨n, hn⟩ : ∃ n, zs.length = n := ⟨_, rfl⟩
  rw [hn] at hzl' hzp ⊢
  have HL := Lib.hid hn
  clear hn
  have HR : Hid (∀ k, k < n → w1.cell? ⟨g, k, none⟩ = some (.int .i64 (zs.getD k 0))) := Lib.hid (fun k hk => by have := hrow k (by rw [HL.out]; exact hk); simpa using this)
  clear hrow
  have hBm : Below w.heap.size w (w1.alloc (Obj.cells #[.int .i64 1, .int .i64 0, .int .i64 0, .int .i64 1] 31)) := (by repeat' (first | (with_reducible exact Below.refl _ _) | (with_reducible assumption) | (with_reducible refine below_drewN ?_ _) | (with_reducible refine Below.drew ?_) | (with_reducible refine Below.alloc ?_ ?_ _) | (with_reducible refine Below.setCell ?_ ?_ _) | (with_reducible refine Below.trans ?_ (Below.mono (by with_reducible assumption) ?_)) | go_size | (dsimp only; omega)))
  go_wp2
  go_loopw [5] (fun i wr => ∃ (x y m0 m1 m2 m3 : Int) (k : Nat), i = .int .i64 k ∧ k ≤ n ∧ Hid (Cv p q x y m0 m1 m2 m3) ∧ Hid (Cont x y (zs.drop k)) ∧ (0 < x ∨ (m2 = 0 ∧ m3 = 1 ∧ y = q)) ∧ (-10000 ≤ x ∧ x ≤ 10000) ∧
      wr.cell? ⟨w1.heap.size, 0, none⟩ = some (.int .i64 m0) ∧ wr.cell? ⟨w1.heap.size, 1, none⟩ = some (.int .i64 m1) ∧ wr.cell? ⟨w1.heap.size, 2, none⟩ = some (.int .i64 m2) ∧ wr.cell? ⟨w1.heap.size, 3, none⟩ = some (.int .i64 m3) ∧ (∀ i, wr.frozen? ⟨w1.heap.size, i, none⟩ = false) ∧ Below w1.heap.size w1 wr ∧ w1.heap.size < wr.heap.size) (fun i wr => n - (intOf i).toNat)
  case atStart => exact ⟨p, q, 1, 0, 0, 1, 0, rfl, by omega, HV, HC, .inr ⟨rfl, rfl, rfl⟩, hp, by go_cell, by go_cell, by go_cell, by go_cell, (by intro i; first | (simp; done) | (go_simp; done)), (by repeat' (first | (with_reducible exact Below.refl _ _) | (with_reducible assumption) | (with_reducible refine below_drewN ?_ _) | (with_reducible refine Below.drew ?_) | (with_reducible refine Below.alloc ?_ ?_ _) | (with_reducible refine Below.setCell ?_ ?_ _) | (with_reducible refine Below.trans ?_ (Below.mono (by with_reducible assumption) ?_)) | go_size | (dsimp only; omega))), by simp⟩
  case round =>
    obtain ⟨x, y, m0, m1, m2, m3, k, rfl, hk, HVV, HCC, hxs, hx, c0, c1, c2, c3, ff, hB, hsz⟩ := hrel
    by_cases hlt : k < n
    · have hlt' : (k : Int) < (n : Int) := by omega
      have hdr : zs.drop k = zs.getD k 0 :: zs.drop (k + 1) := by
        have : k < zs.length := by rw [HL.out]; exact hlt
        rw [List.drop_eq_getElem_cons this]; simp [List.getD, List.getElem?_eq_getElem this]
      have q1 : wr.cell? ⟨g, k, none⟩ = some (.int .i64 (zs.getD k 0)) := by
        rw [hB.cell (p := ⟨g, k, none⟩) hg2]; exact HR.out k hlt
      have hcs := HCC.out
      rw [hdr] at hcs
      rcases cont_inv hcs with ⟨-, h2⟩ | ⟨hy, l', hl', hcn⟩
      · cases h2
      injection hl' with e1 e2
      rw [e1] at q1
      subst e2
      have hz : 0 ≤ flo x y ∨ m2 = 0 := by
        rcases hxs with h | h
        · exact .inl (flo_ge hy (by omega))
        · exact .inr h.1
      have HN := HVV.out.step hq0 hy hz
      have hyq := HVV.out.hyq
      obtain ⟨r0, r1⟩ := flo_rest x y hy
      have n0 := HN.b0
      have n1 := HN.b1
      have n2 := HN.h2
      have n3 := HN.n2
      have o1 := HVV.out.b1
      have o3 := HVV.out.h3
      have o3' := HVV.out.n3
      have o2 := HN.h3
      have o2' := HN.n3
      obtain ⟨f0, f1⟩ := flo_bd x y (by omega) (by omega)
      generalize flo x y = z at *
      have HNN := Lib.hid HN
      have HCN := Lib.hid hcn
      have HM0 : ∃ a, z * m0 + m1 = a := ⟨_, rfl⟩
      have HM2 : ∃ a, z * m2 + m3 = a := ⟨_, rfl⟩
      clear hcs HCC hdr HN hcn hxs hz HVV e1
      go_wp2
      have hm0 : -1000000 ≤ z * m0 ∧ z * m0 ≤ 1000000 := by omega
      have hm2 : -1000000 ≤ z * m2 ∧ z * m2 ≤ 1000000 := by omega
      have hs0 : -1000000 ≤ z * m0 + m1 ∧ z * m0 + m1 ≤ 1000000 := by omega
      have hs2 : -1000000 ≤ z * m2 + m3 ∧ z * m2 + m3 ≤ 1000000 := by omega
      have W0 : IntKind.i64.wrap (z * m0) = z * m0 := IntWalk.i64_in _ (by omega)
      have W2 : IntKind.i64.wrap (z * m2) = z * m2 := IntWalk.i64_in _ (by omega)
      have W1 : IntKind.i64.wrap (z * m0 + m1) = z * m0 + m1 := IntWalk.i64_in _ (by omega)
      have W3 : IntKind.i64.wrap (z * m2 + m3) = z * m2 + m3 := IntWalk.i64_in _ (by omega)
      go_still_tail 25, (by kernel_rfl)
      change wpList _ _ _ _ _ wr.drew
      generalize hw5 : wr.drew = w5
      have hB5 : Below w1.heap.size w1 w5 := by subst hw5; exact (by repeat' (first | (with_reducible exact Below.refl _ _) | (with_reducible assumption) | (with_reducible refine below_drewN ?_ _) | (with_reducible refine Below.drew ?_) | (with_reducible refine Below.alloc ?_ ?_ _) | (with_reducible refine Below.setCell ?_ ?_ _) | (with_reducible refine Below.trans ?_ (Below.mono (by with_reducible assumption) ?_)) | go_size | (dsimp only; omega)))
      have hs5 : w1.heap.size < w5.heap.size := by subst hw5; simpa using hsz
      have e0 : w5.cell? ⟨w1.heap.size, 0, none⟩ = some (.int .i64 m0) := by subst hw5; go_simp
      have e1 : w5.cell? ⟨w1.heap.size, 1, none⟩ = some (.int .i64 m1) := by subst hw5; go_simp
      have e2 : w5.cell? ⟨w1.heap.size, 2, none⟩ = some (.int .i64 m2) := by subst hw5; go_simp
      have e3 : w5.cell? ⟨w1.heap.size, 3, none⟩ = some (.int .i64 m3) := by subst hw5; go_simp
      have ef : ∀ i, w5.frozen? ⟨w1.heap.size, i, none⟩ = false := by subst hw5; intro i; go_simp
      clear hw5 hB c0 c1 c2 c3 ff q1
      generalize z * m0 + m1 = a0 at *
      generalize z * m2 + m3 = a2 at *
      go_wp2
      go_roundw
      case rel => exact ⟨y, x - z * y, a0, m0, a2, m2, k + 1, by go_num, by omega, HNN, HCN, .inl hy, by omega, by go_cell, by go_cell, by go_cell, by go_cell, (by intro i; go_simp), (by repeat' (first | (with_reducible exact Below.refl _ _) | (with_reducible assumption) | (with_reducible refine below_drewN ?_ _) | (with_reducible refine Below.drew ?_) | (with_reducible refine Below.alloc ?_ ?_ _) | (with_reducible refine Below.setCell ?_ ?_ _) | (with_reducible refine Below.trans ?_ (Below.mono (by with_reducible assumption) ?_)) | go_size | (dsimp only; omega))), by go_size⟩
      case measure => simp [intOf]; omega
    · obtain rfl : k = n := by omega
      have hd0 : zs.drop k = [] := by rw [List.drop_eq_nil_iff, HL.out]; exact Nat.le_refl _
      have hcs := HCC.out
      rw [hd0] at hcs
      have hy0 : y = 0 := by
        rcases cont_inv hcs with ⟨h1, -⟩ | ⟨-, l', hl', -⟩
        · exact h1
        · cases hl'
      subst hy0
      have hx0 : 0 < x := by
        rcases hxs with h | h
        · exact h
        · omega
      obtain ⟨d0, d2⟩ := HVV.out.done hx0
      subst d0 d2
      have hdt := HVV.out.det
      have hb1 := HVV.out.b1
      have hb3 := HVV.out.h3
      have hn3 := HVV.out.n3
      have k1 := small_mul (A := 10000) (B := 10001) hp (show -10001 ≤ m3 ∧ m3 ≤ 10001 by omega)
      have k2 := small_mul (A := 10000) (B := 10001) (show -10000 ≤ m2 ∧ m2 ≤ 10000 by omega) (show -10001 ≤ m1 ∧ m1 ≤ 10001 by omega)
      rw [Int.mul_comm m1 m2] at hdt
      clear hcs HCC hd0 hxs HVV HV HC HF HL HR
      have fb0 : wr.cell? ⟨w.heap.size, 0, none⟩ = some (.int .i64 m0) := by rw [hB.cell (p := ⟨w.heap.size, 0, none⟩) (by dsimp only; omega)]; go_simp
      have fb1 : wr.cell? ⟨w.heap.size, 1, none⟩ = some (.int .i64 m2) := by rw [hB.cell (p := ⟨w.heap.size, 1, none⟩) (by dsimp only; omega)]; go_simp
      have ff1 : ∀ o, wr.frozen? ⟨w.heap.size + 1, o, none⟩ = false := by intro o; rw [hB.frozen (p := ⟨w.heap.size + 1, o, none⟩) (by dsimp only; omega)]; go_simp
      have oc0 : wr.cell? ⟨w.heap.size + 1, 0, none⟩ = some (.int .i64 0) := by rw [hB.cell (p := ⟨w.heap.size + 1, 0, none⟩) (by dsimp only; omega)]; go_simp
      have oc1 : wr.cell? ⟨w.heap.size + 1, 1, none⟩ = some (.int .i64 0) := by rw [hB.cell (p := ⟨w.heap.size + 1, 1, none⟩) (by dsimp only; omega)]; go_simp
      have oc2 : wr.cell? ⟨w.heap.size + 1, 2, none⟩ = some (.int .i64 0) := by rw [hB.cell (p := ⟨w.heap.size + 1, 2, none⟩) (by dsimp only; omega)]; go_simp
      have oc3 : wr.cell? ⟨w.heap.size + 1, 3, none⟩ = some (.int .i64 0) := by rw [hB.cell (p := ⟨w.heap.size + 1, 3, none⟩) (by dsimp only; omega)]; go_simp
      have hBw : Below w.heap.size w wr := (by repeat' (first | (with_reducible exact Below.refl _ _) | (with_reducible assumption) | (with_reducible refine below_drewN ?_ _) | (with_reducible refine Below.drew ?_) | (with_reducible refine Below.alloc ?_ ?_ _) | (with_reducible refine Below.setCell ?_ ?_ _) | (with_reducible refine Below.trans ?_ (Below.mono (by with_reducible assumption) ?_)) | go_size | (dsimp only; omega)))
      by_cases hD : m0 * m3 - m2 * m1 < 0
      · have hD1 : m0 * -m3 - m2 * -m1 = 1 := by rw [Int.mul_neg, Int.mul_neg]; omega
        have HD := Lib.hid hD1
        clear hD1 hdt
        go_wp2
        go_region
        all_goals
          go_wp2_with fail
          refine (l01Inverse_c m0 (-m1) m2 (-m3) _ (by omega) (by omega) (by omega) (by omega) (by omega) (by omega) (by omega) (by omega)).mono ?_
          rintro e w2 ⟨rfl, b2⟩
          have zzb2 := b2.size; (try simp at zzb2); have zb2_0 : w.heap.size < w2.heap.size := (by omega); have kcb2_0 : ∀ o, w2.cell? ⟨w.heap.size, o, none⟩ = _ := fun o => b2.cell (p := ⟨w.heap.size, o, none⟩) (by go_size); have kfb2_0 : ∀ o, w2.frozen? ⟨w.heap.size, o, none⟩ = _ := fun o => b2.frozen (p := ⟨w.heap.size, o, none⟩) (by go_size); have zb2_1 : w.heap.size + 1 < w2.heap.size := (by omega); have kcb2_1 : ∀ o, w2.cell? ⟨w.heap.size + 1, o, none⟩ = _ := fun o => b2.cell (p := ⟨w.heap.size + 1, o, none⟩) (by go_size); have kfb2_1 : ∀ o, w2.frozen? ⟨w.heap.size + 1, o, none⟩ = _ := fun o => b2.frozen (p := ⟨w.heap.size + 1, o, none⟩) (by go_size); clear zzb2
          go_wp2
          exact bodyPost_ret (v := .agg #[.int .i64 (-m3), .int .i64 (-(-m1)), .int .i64 (-m2), .int .i64 m0]) (by simp only [results, Try.results9]; go_simp) rfl ⟨-m1, -m3, rfl, HD.out, by omega, by omega, (by repeat' (first | (with_reducible exact Below.refl _ _) | (with_reducible assumption) | (with_reducible refine below_drewN ?_ _) | (with_reducible refine Below.drew ?_) | (with_reducible refine Below.alloc ?_ ?_ _) | (with_reducible refine Below.setCell ?_ ?_ _) | (with_reducible refine Below.trans ?_ (Below.mono (by with_reducible assumption) ?_)) | go_size | (dsimp only; omega)))⟩
      · have hD1 : m0 * m3 - m2 * m1 = 1 := by omega
        have HD := Lib.hid hD1
        clear hD1 hdt
        go_wp2
        go_region
        all_goals
          go_wp2_with fail
          refine (l01Inverse_c m0 (m1) m2 (m3) _ (by omega) (by omega) (by omega) (by omega) (by omega) (by omega) (by omega) (by omega)).mono ?_
          rintro e w2 ⟨rfl, b2⟩
          have zzb2 := b2.size; (try simp at zzb2); have zb2_0 : w.heap.size < w2.heap.size := (by omega); have kcb2_0 : ∀ o, w2.cell? ⟨w.heap.size, o, none⟩ = _ := fun o => b2.cell (p := ⟨w.heap.size, o, none⟩) (by go_size); have kfb2_0 : ∀ o, w2.frozen? ⟨w.heap.size, o, none⟩ = _ := fun o => b2.frozen (p := ⟨w.heap.size, o, none⟩) (by go_size); have zb2_1 : w.heap.size + 1 < w2.heap.size := (by omega); have kcb2_1 : ∀ o, w2.cell? ⟨w.heap.size + 1, o, none⟩ = _ := fun o => b2.cell (p := ⟨w.heap.size + 1, o, none⟩) (by go_size); have kfb2_1 : ∀ o, w2.frozen? ⟨w.heap.size + 1, o, none⟩ = _ := fun o => b2.frozen (p := ⟨w.heap.size + 1, o, none⟩) (by go_size); clear zzb2
          go_wp2
          exact bodyPost_ret (v := .agg #[.int .i64 m3, .int .i64 (-(m1)), .int .i64 (-m2), .int .i64 m0]) (by simp only [results, Try.results9]; go_simp) rfl ⟨m1, m3, rfl, HD.out, by omega, by omega, (by repeat' (first | (with_reducible exact Below.refl _ _) | (with_reducible assumption) | (with_reducible refine below_drewN ?_ _) | (with_reducible refine Below.drew ?_) | (with_reducible refine Below.alloc ?_ ?_ _) | (with_reducible refine Below.setCell ?_ ?_ _) | (with_reducible refine Below.trans ?_ (Below.mono (by with_reducible assumption) ?_)) | go_size | (dsimp only; omega)))⟩
end Go.Proofs.Yteeogfikncjjlaa
