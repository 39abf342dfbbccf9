/- PowerOf: the walks. -/
import Derived.Test.YtlkhhpckgcdeeaaGreatDoorPB
import Derived.Test.YtlkhhpckgcdeeaaGreatDoorAQ
import Derived.Deep.DeepCutAuto
namespace Go.Proofs.YtlkhhpckgcdeeaaGreatDoor
open Go.RowKit
open Plain (P4 U V)
set_option linter.unusedVariables false
set_option linter.unusedSimpArgs false
def P4.v4 (m : P4) : Value := .agg #[.int .i64 m.a, .int .i64 m.b, .int .i64 m.c, .int .i64 m.d]
theorem fit_ent {m : P4} : (ent m.a && ent m.b && ent m.c && ent m.d) = true ↔ m.fit := by
  simp only [Bool.and_eq_true, ent_iff, P4.fit]
  omega
open Classical in
/-- what a power answers -/
noncomputable def powV (m : P4) (n : Nat) : Value := if (m.pow n).fit then .tuple #[P4.v4 (m.pow n), .int .i64 0] else .tuple #[.agg #[.int .i64 0, .int .i64 0, .int .i64 0, .int .i64 0], .int .i64 3]
theorem powV_yes {m : P4} {n : Nat} (h : (m.pow n).fit) : powV m n = .tuple #[P4.v4 (m.pow n), .int .i64 0] := if_pos h
theorem powV_no {m : P4} {n : Nat} (h : ¬ (m.pow n).fit) : powV m n = .tuple #[.agg #[.int .i64 0, .int .i64 0, .int .i64 0, .int .i64 0], .int .i64 3] := if_neg h
set_option maxRecDepth 100000 in
set_option maxHeartbeats 8000000 in
theorem power_pos (p q r s : Int) (n : Nat) (w : World) (h : isM p q r s = true) (hn : n ≤ 1000000) :
    Calls Tryz.prog 107 #[.agg #[.int .i64 p, .int .i64 q, .int .i64 r, .int .i64 s], .int .i64 n] w fun e w' => e = .returned (powV ⟨p, q, r, s⟩ n) ∧ Below w.heap.size w w' := by
  obtain ⟨⟨hp0, hp1⟩, ⟨hq0, hq1⟩, ⟨hr0, hr1⟩, ⟨hs0', hs1'⟩, hdet⟩ := isM_iff.mp h
  have HDET : Hid (P4.det ⟨p, q, r, s⟩ = 1) := Lib.hid hdet
  clear h hdet
  have hk : ¬ ((n : Int) < 0) := by omega
  go_enter Tryz.func107, Tryz.ntmps107
  go_upto_region 4 with fail
  generalize hw4 : World.alloc _ _ = w4
  have c0 : w4.cell? ⟨w.heap.size, 0, none⟩ = some (.int .i64 p) := by subst hw4; go_simp
  have c1 : w4.cell? ⟨w.heap.size, 1, none⟩ = some (.int .i64 q) := by subst hw4; go_simp
  have c2 : w4.cell? ⟨w.heap.size, 2, none⟩ = some (.int .i64 r) := by subst hw4; go_simp
  have c3 : w4.cell? ⟨w.heap.size, 3, none⟩ = some (.int .i64 s) := by subst hw4; go_simp
  have z0 : w4.cell? ⟨w.heap.size + 1, 0, none⟩ = some (.int .i64 0) := by subst hw4; go_simp
  have z1 : w4.cell? ⟨w.heap.size + 1, 1, none⟩ = some (.int .i64 0) := by subst hw4; go_simp
  have z2 : w4.cell? ⟨w.heap.size + 1, 2, none⟩ = some (.int .i64 0) := by subst hw4; go_simp
  have z3 : w4.cell? ⟨w.heap.size + 1, 3, none⟩ = some (.int .i64 0) := by subst hw4; go_simp
  have zf : ∀ i, w4.frozen? ⟨w.heap.size + 1, i, none⟩ = false := by subst hw4; intro i; go_simp
  have hB : Below w.heap.size w w4 := by subst hw4; exact (by repeat' (first | (with_reducible exact Below.refl _ _) | (with_reducible assumption) | (with_reducible refine below_drewN ?_ _) | (with_reducible refine Below.drew ?_) | (with_reducible refine Below.alloc ?_ ?_ _) | (with_reducible refine Below.setCell ?_ ?_ _) | (with_reducible refine Below.trans ?_ (Below.mono (by with_reducible assumption) ?_)) | go_size | (dsimp only; omega)))
  have hs : w.heap.size + 1 < w4.heap.size := by subst hw4; go_size
  clear hw4
  go_wp2
  go_loopw [6, 7, 15] (fun x y i wr => ∃ (j : Nat) (u v : Int), j ≤ n ∧ i = .int .i64 j ∧ x = .int .i64 v ∧ y = .int .i64 u ∧ Hid (u = U (p + s) j) ∧ Hid (v = V (p + s) j) ∧ -1000000000 ≤ u ∧ u ≤ 1000000000 ∧ -1000000000 ≤ v ∧ v ≤ 1000000000 ∧
      wr.cell? ⟨w.heap.size, 0, none⟩ = some (.int .i64 p) ∧ wr.cell? ⟨w.heap.size, 1, none⟩ = some (.int .i64 q) ∧ wr.cell? ⟨w.heap.size, 2, none⟩ = some (.int .i64 r) ∧ wr.cell? ⟨w.heap.size, 3, none⟩ = some (.int .i64 s) ∧
      wr.cell? ⟨w.heap.size + 1, 0, none⟩ = some (.int .i64 0) ∧ wr.cell? ⟨w.heap.size + 1, 1, none⟩ = some (.int .i64 0) ∧ wr.cell? ⟨w.heap.size + 1, 2, none⟩ = some (.int .i64 0) ∧ wr.cell? ⟨w.heap.size + 1, 3, none⟩ = some (.int .i64 0) ∧ (∀ i, wr.frozen? ⟨w.heap.size + 1, i, none⟩ = false) ∧
      Below w.heap.size w wr ∧ w.heap.size + 1 < wr.heap.size) (fun x y i wr => n - (intOf i).toNat)
  case atStart => exact ⟨0, 0, -1, Nat.zero_le _, rfl, rfl, rfl, Lib.hid rfl, Lib.hid rfl, by omega, by omega, by omega, by omega, c0, c1, c2, c3, z0, z1, z2, z3, zf, hB, hs⟩
  case round =>
    clear c0 c1 c2 c3 z0 z1 z2 z3 zf hB hs
    obtain ⟨j, u, v, hj, rfl, rfl, rfl, HU, HVV, hu0, hu1, hv0, hv1, c0, c1, c2, c3, z0, z1, z2, z3, zf, hB, hs⟩ := hrel
    have hs0 : w.heap.size < wr.heap.size := by omega
    by_cases hlt : j < n
    · have hltI : (j : Int) < (n : Int) := by omega
      have hm := mul_bd (x := p + s) (y := u) (A := 2000000000) (B := 1000000000) (by omega) (by omega) hu0 hu1
      obtain ⟨m0, m1⟩ := hm
      have hsu : U (p + s) (j + 1) = (p + s) * u - v := by rw [Plain.U_succ, ← HU.out, ← HVV.out]
      have HS := Lib.hid hsu
      clear hsu
      cases he : ent ((p + s) * u - v)
      · have hno : powV ⟨p, q, r, s⟩ n = .tuple #[.agg #[.int .i64 0, .int .i64 0, .int .i64 0, .int .i64 0], .int .i64 3] := powV_no (Plain.U_limit ⟨p, q, r, s⟩ HDET.out (j + 1) n (by omega) hn (by
          show 1000000000 < (U (p + s) (j + 1)).natAbs
          rw [HS.out]
          simp only [ent, Bool.and_eq_false_iff, decide_eq_false_iff_not] at he
          omega))
        have HNO := Lib.hid hno
        have HE := Lib.hid he
        clear hno he
        go_wp2_with fail
        refine (trace_c _ _ _ _ _ (by omega) (by omega) (by omega) (by omega)).mono ?_
        rintro e w5 ⟨rfl, b5⟩
        have zzb5 := b5.size; (try simp at zzb5); have zb5_0 : w.heap.size < w5.heap.size := (by omega); have kcb5_0 : ∀ o, w5.cell? ⟨w.heap.size, o, none⟩ = _ := fun o => b5.cell (p := ⟨w.heap.size, o, none⟩) (by go_size); have kfb5_0 : ∀ o, w5.frozen? ⟨w.heap.size, o, none⟩ = _ := fun o => b5.frozen (p := ⟨w.heap.size, o, none⟩) (by go_size); have zb5_1 : w.heap.size + 1 < w5.heap.size := (by omega); have kcb5_1 : ∀ o, w5.cell? ⟨w.heap.size + 1, o, none⟩ = _ := fun o => b5.cell (p := ⟨w.heap.size + 1, o, none⟩) (by go_size); have kfb5_1 : ∀ o, w5.frozen? ⟨w.heap.size + 1, o, none⟩ = _ := fun o => b5.frozen (p := ⟨w.heap.size + 1, o, none⟩) (by go_size); clear zzb5
        go_wp2_with fail
        refine (isEntry_c _ _).mono ?_
        rintro e w6 ⟨rfl, rfl⟩
        rw [HE.out]
        go_wp2
        exact bodyPost_ret (v := .tuple #[.agg #[.int .i64 0, .int .i64 0, .int .i64 0, .int .i64 0], .int .i64 3]) (by simp only [results, Tryz.results107]; go_simp) rfl ⟨congrArg Ending.returned HNO.out.symm, (by repeat' (first | (with_reducible exact Below.refl _ _) | (with_reducible assumption) | (with_reducible refine below_drewN ?_ _) | (with_reducible refine Below.drew ?_) | (with_reducible refine Below.alloc ?_ ?_ _) | (with_reducible refine Below.setCell ?_ ?_ _) | (with_reducible refine Below.trans ?_ (Below.mono (by with_reducible assumption) ?_)) | go_size | (dsimp only; omega)))⟩
      · have HE := Lib.hid he
        have he' := ent_iff.mp he
        obtain ⟨e0, e1⟩ := he'
        clear he
        go_wp2_with fail
        refine (trace_c _ _ _ _ _ (by omega) (by omega) (by omega) (by omega)).mono ?_
        rintro e w5 ⟨rfl, b5⟩
        have zzb5 := b5.size; (try simp at zzb5); have zb5_0 : w.heap.size < w5.heap.size := (by omega); have kcb5_0 : ∀ o, w5.cell? ⟨w.heap.size, o, none⟩ = _ := fun o => b5.cell (p := ⟨w.heap.size, o, none⟩) (by go_size); have kfb5_0 : ∀ o, w5.frozen? ⟨w.heap.size, o, none⟩ = _ := fun o => b5.frozen (p := ⟨w.heap.size, o, none⟩) (by go_size); have zb5_1 : w.heap.size + 1 < w5.heap.size := (by omega); have kcb5_1 : ∀ o, w5.cell? ⟨w.heap.size + 1, o, none⟩ = _ := fun o => b5.cell (p := ⟨w.heap.size + 1, o, none⟩) (by go_size); have kfb5_1 : ∀ o, w5.frozen? ⟨w.heap.size + 1, o, none⟩ = _ := fun o => b5.frozen (p := ⟨w.heap.size + 1, o, none⟩) (by go_size); clear zzb5
        go_wp2_with fail
        refine (isEntry_c _ _).mono ?_
        rintro e w6 ⟨rfl, rfl⟩
        rw [HE.out]
        go_wp2
        go_roundw
        case rel => exact ⟨j + 1, _, u, by omega, by go_num, rfl, rfl, Lib.hid HS.out.symm, Lib.hid HU.out, e0, e1, hu0, hu1, by go_simp, by go_simp, by go_simp, by go_simp, by go_simp, by go_simp, by go_simp, by go_simp, (by intro i; go_simp), (by repeat' (first | (with_reducible exact Below.refl _ _) | (with_reducible assumption) | (with_reducible refine below_drewN ?_ _) | (with_reducible refine Below.drew ?_) | (with_reducible refine Below.alloc ?_ ?_ _) | (with_reducible refine Below.setCell ?_ ?_ _) | (with_reducible refine Below.trans ?_ (Below.mono (by with_reducible assumption) ?_)) | go_size | (dsimp only; omega))), by go_size⟩
        case measure => simp [intOf]; omega
    · obtain rfl : j = n := by omega
      have hpw := Plain.pow_U ⟨p, q, r, s⟩ HDET.out j
      have hpw' : (P4.mk p q r s).pow j = ⟨u * p - v, u * q, u * r, u * s - v⟩ := by
        rw [hpw]
        show P4.mk (U (p + s) j * p - V (p + s) j) (U (p + s) j * q) (U (p + s) j * r) (U (p + s) j * s - V (p + s) j) = _
        rw [← HU.out, ← HVV.out]
      have HPW := Lib.hid hpw'
      clear hpw hpw'
      obtain ⟨ma0, ma1⟩ := mul_bd (x := u) (y := p) (A := 1000000000) (B := 1000000000) hu0 hu1 (by omega) (by omega)
      obtain ⟨mb0, mb1⟩ := mul_bd (x := u) (y := q) (A := 1000000000) (B := 1000000000) hu0 hu1 (by omega) (by omega)
      obtain ⟨mc0, mc1⟩ := mul_bd (x := u) (y := r) (A := 1000000000) (B := 1000000000) hu0 hu1 (by omega) (by omega)
      obtain ⟨md0, md1⟩ := mul_bd (x := u) (y := s) (A := 1000000000) (B := 1000000000) hu0 hu1 (by omega) (by omega)
      cases he : (ent (u * p - v) && ent (u * q) && ent (u * r) && ent (u * s - v))
      · have hno : powV ⟨p, q, r, s⟩ j = .tuple #[.agg #[.int .i64 0, .int .i64 0, .int .i64 0, .int .i64 0], .int .i64 3] := powV_no (fun h => by rw [HPW.out] at h; rw [fit_ent.mpr h] at he; simp at he)
        have HNO := Lib.hid hno
        have HE := Lib.hid he
        clear hno he
        go_wp2_with fail
        refine (limited_no _ _ _ _ _ HE.out).mono ?_
        rintro e w5 ⟨rfl, b5⟩
        have zzb5 := b5.size; (try simp at zzb5); have zb5_0 : w.heap.size < w5.heap.size := (by omega); have kcb5_0 : ∀ o, w5.cell? ⟨w.heap.size, o, none⟩ = _ := fun o => b5.cell (p := ⟨w.heap.size, o, none⟩) (by go_size); have kfb5_0 : ∀ o, w5.frozen? ⟨w.heap.size, o, none⟩ = _ := fun o => b5.frozen (p := ⟨w.heap.size, o, none⟩) (by go_size); have zb5_1 : w.heap.size + 1 < w5.heap.size := (by omega); have kcb5_1 : ∀ o, w5.cell? ⟨w.heap.size + 1, o, none⟩ = _ := fun o => b5.cell (p := ⟨w.heap.size + 1, o, none⟩) (by go_size); have kfb5_1 : ∀ o, w5.frozen? ⟨w.heap.size + 1, o, none⟩ = _ := fun o => b5.frozen (p := ⟨w.heap.size + 1, o, none⟩) (by go_size); clear zzb5
        go_wp2
        exact bodyPost_ret (v := .tuple #[.agg #[.int .i64 0, .int .i64 0, .int .i64 0, .int .i64 0], .int .i64 3]) (by simp only [results, Tryz.results107]; go_simp) rfl ⟨congrArg Ending.returned HNO.out.symm, (by repeat' (first | (with_reducible exact Below.refl _ _) | (with_reducible assumption) | (with_reducible refine below_drewN ?_ _) | (with_reducible refine Below.drew ?_) | (with_reducible refine Below.alloc ?_ ?_ _) | (with_reducible refine Below.setCell ?_ ?_ _) | (with_reducible refine Below.trans ?_ (Below.mono (by with_reducible assumption) ?_)) | go_size | (dsimp only; omega)))⟩
      · have hyes : powV ⟨p, q, r, s⟩ j = .tuple #[.agg #[.int .i64 (u * p - v), .int .i64 (u * q), .int .i64 (u * r), .int .i64 (u * s - v)], .int .i64 0] := by
          rw [powV_yes (by rw [HPW.out]; exact fit_ent.mp he), HPW.out]; rfl
        have HYES := Lib.hid hyes
        have HE := Lib.hid he
        clear hyes he
        go_wp2_with fail
        refine (limited_yes _ _ _ _ _ HE.out).mono ?_
        rintro e w5 ⟨rfl, b5⟩
        have zzb5 := b5.size; (try simp at zzb5); have zb5_0 : w.heap.size < w5.heap.size := (by omega); have kcb5_0 : ∀ o, w5.cell? ⟨w.heap.size, o, none⟩ = _ := fun o => b5.cell (p := ⟨w.heap.size, o, none⟩) (by go_size); have kfb5_0 : ∀ o, w5.frozen? ⟨w.heap.size, o, none⟩ = _ := fun o => b5.frozen (p := ⟨w.heap.size, o, none⟩) (by go_size); have zb5_1 : w.heap.size + 1 < w5.heap.size := (by omega); have kcb5_1 : ∀ o, w5.cell? ⟨w.heap.size + 1, o, none⟩ = _ := fun o => b5.cell (p := ⟨w.heap.size + 1, o, none⟩) (by go_size); have kfb5_1 : ∀ o, w5.frozen? ⟨w.heap.size + 1, o, none⟩ = _ := fun o => b5.frozen (p := ⟨w.heap.size + 1, o, none⟩) (by go_size); clear zzb5
        go_wp2
        exact bodyPost_ret (v := .tuple #[.agg #[.int .i64 (u * p - v), .int .i64 (u * q), .int .i64 (u * r), .int .i64 (u * s - v)], .int .i64 0]) (by simp only [results, Tryz.results107]; go_simp) rfl ⟨congrArg Ending.returned HYES.out.symm, (by repeat' (first | (with_reducible exact Below.refl _ _) | (with_reducible assumption) | (with_reducible refine below_drewN ?_ _) | (with_reducible refine Below.drew ?_) | (with_reducible refine Below.alloc ?_ ?_ _) | (with_reducible refine Below.setCell ?_ ?_ _) | (with_reducible refine Below.trans ?_ (Below.mono (by with_reducible assumption) ?_)) | go_size | (dsimp only; omega)))⟩
set_option maxRecDepth 100000 in
set_option maxHeartbeats 8000000 in
theorem power_neg (p q r s : Int) (n : Nat) (w : World) (h : isM p q r s = true) (hn : n ≤ 1000000) (h1 : 1 ≤ n) :
    Calls Tryz.prog 107 #[.agg #[.int .i64 p, .int .i64 q, .int .i64 r, .int .i64 s], .int .i64 (-(n : Int))] w fun e w' => e = .returned (powV ⟨s, -q, -r, p⟩ n) ∧ Below w.heap.size w w' := by
  obtain ⟨⟨hp0, hp1⟩, ⟨hq0, hq1⟩, ⟨hr0, hr1⟩, ⟨hs0', hs1'⟩, hdet⟩ := isM_iff.mp h
  have HDET : Hid (P4.det ⟨s, -q, -r, p⟩ = 1) := Lib.hid (by show s * p - -q * -r = 1; rw [Int.neg_mul_neg, Int.mul_comm s p]; exact hdet)
  clear h hdet
  have hk : (-(n : Int) < 0) := by omega
  go_enter Tryz.func107, Tryz.ntmps107
  go_wp2_with fail
  refine (inverse_c _ _ _ _ _ hp0 hp1 hq0 hq1 hr0 hr1 hs0' hs1').mono ?_
  rintro e w3 ⟨rfl, b3⟩
  have zzb3 := b3.size; (try simp at zzb3); have zb3_0 : w.heap.size < w3.heap.size := (by omega); have kcb3_0 : ∀ o, w3.cell? ⟨w.heap.size, o, none⟩ = _ := fun o => b3.cell (p := ⟨w.heap.size, o, none⟩) (by go_size); have kfb3_0 : ∀ o, w3.frozen? ⟨w.heap.size, o, none⟩ = _ := fun o => b3.frozen (p := ⟨w.heap.size, o, none⟩) (by go_size); have zb3_1 : w.heap.size + 1 < w3.heap.size := (by omega); have kcb3_1 : ∀ o, w3.cell? ⟨w.heap.size + 1, o, none⟩ = _ := fun o => b3.cell (p := ⟨w.heap.size + 1, o, none⟩) (by go_size); have kfb3_1 : ∀ o, w3.frozen? ⟨w.heap.size + 1, o, none⟩ = _ := fun o => b3.frozen (p := ⟨w.heap.size + 1, o, none⟩) (by go_size); clear zzb3
  go_upto_region 4 with fail
  generalize hw4 : World.setCell _ _ _ = w4
  have c0 : w4.cell? ⟨w.heap.size, 0, none⟩ = some (.int .i64 s) := by subst hw4; go_simp
  have c1 : w4.cell? ⟨w.heap.size, 1, none⟩ = some (.int .i64 (-q)) := by subst hw4; go_simp
  have c2 : w4.cell? ⟨w.heap.size, 2, none⟩ = some (.int .i64 (-r)) := by subst hw4; go_simp
  have c3 : w4.cell? ⟨w.heap.size, 3, none⟩ = some (.int .i64 p) := by subst hw4; go_simp
  have z0 : w4.cell? ⟨w.heap.size + 1, 0, none⟩ = some (.int .i64 0) := by subst hw4; go_simp
  have z1 : w4.cell? ⟨w.heap.size + 1, 1, none⟩ = some (.int .i64 0) := by subst hw4; go_simp
  have z2 : w4.cell? ⟨w.heap.size + 1, 2, none⟩ = some (.int .i64 0) := by subst hw4; go_simp
  have z3 : w4.cell? ⟨w.heap.size + 1, 3, none⟩ = some (.int .i64 0) := by subst hw4; go_simp
  have zf : ∀ i, w4.frozen? ⟨w.heap.size + 1, i, none⟩ = false := by subst hw4; intro i; go_simp
  have hB : Below w.heap.size w w4 := by subst hw4; exact (by repeat' (first | (with_reducible exact Below.refl _ _) | (with_reducible assumption) | (with_reducible refine below_drewN ?_ _) | (with_reducible refine Below.drew ?_) | (with_reducible refine Below.alloc ?_ ?_ _) | (with_reducible refine Below.setCell ?_ ?_ _) | (with_reducible refine Below.trans ?_ (Below.mono (by with_reducible assumption) ?_)) | go_size | (dsimp only; omega)))
  have hs : w.heap.size + 1 < w4.heap.size := by subst hw4; go_size
  clear hw4 kcb3_0 kfb3_0 kcb3_1 kfb3_1 b3
  go_wp2
  go_loopw [6, 7, 15] (fun x y i wr => ∃ (j : Nat) (u v : Int), j ≤ n ∧ i = .int .i64 j ∧ x = .int .i64 v ∧ y = .int .i64 u ∧ Hid (u = U (s + p) j) ∧ Hid (v = V (s + p) j) ∧ -1000000000 ≤ u ∧ u ≤ 1000000000 ∧ -1000000000 ≤ v ∧ v ≤ 1000000000 ∧
      wr.cell? ⟨w.heap.size, 0, none⟩ = some (.int .i64 s) ∧ wr.cell? ⟨w.heap.size, 1, none⟩ = some (.int .i64 (-q)) ∧ wr.cell? ⟨w.heap.size, 2, none⟩ = some (.int .i64 (-r)) ∧ wr.cell? ⟨w.heap.size, 3, none⟩ = some (.int .i64 p) ∧
      wr.cell? ⟨w.heap.size + 1, 0, none⟩ = some (.int .i64 0) ∧ wr.cell? ⟨w.heap.size + 1, 1, none⟩ = some (.int .i64 0) ∧ wr.cell? ⟨w.heap.size + 1, 2, none⟩ = some (.int .i64 0) ∧ wr.cell? ⟨w.heap.size + 1, 3, none⟩ = some (.int .i64 0) ∧ (∀ i, wr.frozen? ⟨w.heap.size + 1, i, none⟩ = false) ∧
      Below w.heap.size w wr ∧ w.heap.size + 1 < wr.heap.size) (fun x y i wr => n - (intOf i).toNat)
  case atStart => exact ⟨0, 0, -1, Nat.zero_le _, rfl, rfl, rfl, Lib.hid rfl, Lib.hid rfl, by omega, by omega, by omega, by omega, c0, c1, c2, c3, z0, z1, z2, z3, zf, hB, hs⟩
  case round =>
    clear c0 c1 c2 c3 z0 z1 z2 z3 zf hB hs
    obtain ⟨j, u, v, hj, rfl, rfl, rfl, HU, HVV, hu0, hu1, hv0, hv1, c0, c1, c2, c3, z0, z1, z2, z3, zf, hB, hs⟩ := hrel
    have hs0 : w.heap.size < wr.heap.size := by omega
    by_cases hlt : j < n
    · have hltI : (j : Int) < (n : Int) := by omega
      have hm := mul_bd (x := s + p) (y := u) (A := 2000000000) (B := 1000000000) (by omega) (by omega) hu0 hu1
      obtain ⟨m0, m1⟩ := hm
      have hsu : U (s + p) (j + 1) = (s + p) * u - v := by rw [Plain.U_succ, ← HU.out, ← HVV.out]
      have HS := Lib.hid hsu
      clear hsu
      cases he : ent ((s + p) * u - v)
      · have hno : powV ⟨s, -q, -r, p⟩ n = .tuple #[.agg #[.int .i64 0, .int .i64 0, .int .i64 0, .int .i64 0], .int .i64 3] := powV_no (Plain.U_limit ⟨s, -q, -r, p⟩ HDET.out (j + 1) n (by omega) hn (by
          show 1000000000 < (U (s + p) (j + 1)).natAbs
          rw [HS.out]
          simp only [ent, Bool.and_eq_false_iff, decide_eq_false_iff_not] at he
          omega))
        have HNO := Lib.hid hno
        have HE := Lib.hid he
        clear hno he
        go_wp2_with fail
        refine (trace_c _ _ _ _ _ (by omega) (by omega) (by omega) (by omega)).mono ?_
        rintro e w5 ⟨rfl, b5⟩
        have zzb5 := b5.size; (try simp at zzb5); have zb5_0 : w.heap.size < w5.heap.size := (by omega); have kcb5_0 : ∀ o, w5.cell? ⟨w.heap.size, o, none⟩ = _ := fun o => b5.cell (p := ⟨w.heap.size, o, none⟩) (by go_size); have kfb5_0 : ∀ o, w5.frozen? ⟨w.heap.size, o, none⟩ = _ := fun o => b5.frozen (p := ⟨w.heap.size, o, none⟩) (by go_size); have zb5_1 : w.heap.size + 1 < w5.heap.size := (by omega); have kcb5_1 : ∀ o, w5.cell? ⟨w.heap.size + 1, o, none⟩ = _ := fun o => b5.cell (p := ⟨w.heap.size + 1, o, none⟩) (by go_size); have kfb5_1 : ∀ o, w5.frozen? ⟨w.heap.size + 1, o, none⟩ = _ := fun o => b5.frozen (p := ⟨w.heap.size + 1, o, none⟩) (by go_size); clear zzb5
        go_wp2_with fail
        refine (isEntry_c _ _).mono ?_
        rintro e w6 ⟨rfl, rfl⟩
        rw [HE.out]
        go_wp2
        exact bodyPost_ret (v := .tuple #[.agg #[.int .i64 0, .int .i64 0, .int .i64 0, .int .i64 0], .int .i64 3]) (by simp only [results, Tryz.results107]; go_simp) rfl ⟨congrArg Ending.returned HNO.out.symm, (by repeat' (first | (with_reducible exact Below.refl _ _) | (with_reducible assumption) | (with_reducible refine below_drewN ?_ _) | (with_reducible refine Below.drew ?_) | (with_reducible refine Below.alloc ?_ ?_ _) | (with_reducible refine Below.setCell ?_ ?_ _) | (with_reducible refine Below.trans ?_ (Below.mono (by with_reducible assumption) ?_)) | go_size | (dsimp only; omega)))⟩
      · have HE := Lib.hid he
        have he' := ent_iff.mp he
        obtain ⟨e0, e1⟩ := he'
        clear he
        go_wp2_with fail
        refine (trace_c _ _ _ _ _ (by omega) (by omega) (by omega) (by omega)).mono ?_
        rintro e w5 ⟨rfl, b5⟩
        have zzb5 := b5.size; (try simp at zzb5); have zb5_0 : w.heap.size < w5.heap.size := (by omega); have kcb5_0 : ∀ o, w5.cell? ⟨w.heap.size, o, none⟩ = _ := fun o => b5.cell (p := ⟨w.heap.size, o, none⟩) (by go_size); have kfb5_0 : ∀ o, w5.frozen? ⟨w.heap.size, o, none⟩ = _ := fun o => b5.frozen (p := ⟨w.heap.size, o, none⟩) (by go_size); have zb5_1 : w.heap.size + 1 < w5.heap.size := (by omega); have kcb5_1 : ∀ o, w5.cell? ⟨w.heap.size + 1, o, none⟩ = _ := fun o => b5.cell (p := ⟨w.heap.size + 1, o, none⟩) (by go_size); have kfb5_1 : ∀ o, w5.frozen? ⟨w.heap.size + 1, o, none⟩ = _ := fun o => b5.frozen (p := ⟨w.heap.size + 1, o, none⟩) (by go_size); clear zzb5
        go_wp2_with fail
        refine (isEntry_c _ _).mono ?_
        rintro e w6 ⟨rfl, rfl⟩
        rw [HE.out]
        go_wp2
        go_roundw
        case rel => exact ⟨j + 1, _, u, by omega, by go_num, rfl, rfl, Lib.hid HS.out.symm, Lib.hid HU.out, e0, e1, hu0, hu1, by go_simp, by go_simp, by go_simp, by go_simp, by go_simp, by go_simp, by go_simp, by go_simp, (by intro i; go_simp), (by repeat' (first | (with_reducible exact Below.refl _ _) | (with_reducible assumption) | (with_reducible refine below_drewN ?_ _) | (with_reducible refine Below.drew ?_) | (with_reducible refine Below.alloc ?_ ?_ _) | (with_reducible refine Below.setCell ?_ ?_ _) | (with_reducible refine Below.trans ?_ (Below.mono (by with_reducible assumption) ?_)) | go_size | (dsimp only; omega))), by go_size⟩
        case measure => simp [intOf]; omega
    · obtain rfl : j = n := by omega
      have hpw := Plain.pow_U ⟨s, -q, -r, p⟩ HDET.out j
      have hpw' : (P4.mk s (-q) (-r) p).pow j = ⟨u * s - v, u * (-q), u * (-r), u * p - v⟩ := by
        rw [hpw]
        show P4.mk (U (s + p) j * s - V (s + p) j) (U (s + p) j * (-q)) (U (s + p) j * (-r)) (U (s + p) j * p - V (s + p) j) = _
        rw [← HU.out, ← HVV.out]
      have HPW := Lib.hid hpw'
      clear hpw hpw'
      obtain ⟨ma0, ma1⟩ := mul_bd (x := u) (y := s) (A := 1000000000) (B := 1000000000) hu0 hu1 (by omega) (by omega)
      obtain ⟨mb0, mb1⟩ := mul_bd (x := u) (y := -q) (A := 1000000000) (B := 1000000000) hu0 hu1 (by omega) (by omega)
      obtain ⟨mc0, mc1⟩ := mul_bd (x := u) (y := -r) (A := 1000000000) (B := 1000000000) hu0 hu1 (by omega) (by omega)
      obtain ⟨md0, md1⟩ := mul_bd (x := u) (y := p) (A := 1000000000) (B := 1000000000) hu0 hu1 (by omega) (by omega)
      cases he : (ent (u * s - v) && ent (u * (-q)) && ent (u * (-r)) && ent (u * p - v))
      · have hno : powV ⟨s, -q, -r, p⟩ j = .tuple #[.agg #[.int .i64 0, .int .i64 0, .int .i64 0, .int .i64 0], .int .i64 3] := powV_no (fun h => by rw [HPW.out] at h; rw [fit_ent.mpr h] at he; simp at he)
        have HNO := Lib.hid hno
        have HE := Lib.hid he
        clear hno he
        go_wp2_with fail
        refine (limited_no _ _ _ _ _ HE.out).mono ?_
        rintro e w5 ⟨rfl, b5⟩
        have zzb5 := b5.size; (try simp at zzb5); have zb5_0 : w.heap.size < w5.heap.size := (by omega); have kcb5_0 : ∀ o, w5.cell? ⟨w.heap.size, o, none⟩ = _ := fun o => b5.cell (p := ⟨w.heap.size, o, none⟩) (by go_size); have kfb5_0 : ∀ o, w5.frozen? ⟨w.heap.size, o, none⟩ = _ := fun o => b5.frozen (p := ⟨w.heap.size, o, none⟩) (by go_size); have zb5_1 : w.heap.size + 1 < w5.heap.size := (by omega); have kcb5_1 : ∀ o, w5.cell? ⟨w.heap.size + 1, o, none⟩ = _ := fun o => b5.cell (p := ⟨w.heap.size + 1, o, none⟩) (by go_size); have kfb5_1 : ∀ o, w5.frozen? ⟨w.heap.size + 1, o, none⟩ = _ := fun o => b5.frozen (p := ⟨w.heap.size + 1, o, none⟩) (by go_size); clear zzb5
        go_wp2
        exact bodyPost_ret (v := .tuple #[.agg #[.int .i64 0, .int .i64 0, .int .i64 0, .int .i64 0], .int .i64 3]) (by simp only [results, Tryz.results107]; go_simp) rfl ⟨congrArg Ending.returned HNO.out.symm, (by repeat' (first | (with_reducible exact Below.refl _ _) | (with_reducible assumption) | (with_reducible refine below_drewN ?_ _) | (with_reducible refine Below.drew ?_) | (with_reducible refine Below.alloc ?_ ?_ _) | (with_reducible refine Below.setCell ?_ ?_ _) | (with_reducible refine Below.trans ?_ (Below.mono (by with_reducible assumption) ?_)) | go_size | (dsimp only; omega)))⟩
      · have hyes : powV ⟨s, -q, -r, p⟩ j = .tuple #[.agg #[.int .i64 (u * s - v), .int .i64 (u * (-q)), .int .i64 (u * (-r)), .int .i64 (u * p - v)], .int .i64 0] := by
          rw [powV_yes (by rw [HPW.out]; exact fit_ent.mp he), HPW.out]; rfl
        have HYES := Lib.hid hyes
        have HE := Lib.hid he
        clear hyes he
        go_wp2_with fail
        refine (limited_yes _ _ _ _ _ HE.out).mono ?_
        rintro e w5 ⟨rfl, b5⟩
        have zzb5 := b5.size; (try simp at zzb5); have zb5_0 : w.heap.size < w5.heap.size := (by omega); have kcb5_0 : ∀ o, w5.cell? ⟨w.heap.size, o, none⟩ = _ := fun o => b5.cell (p := ⟨w.heap.size, o, none⟩) (by go_size); have kfb5_0 : ∀ o, w5.frozen? ⟨w.heap.size, o, none⟩ = _ := fun o => b5.frozen (p := ⟨w.heap.size, o, none⟩) (by go_size); have zb5_1 : w.heap.size + 1 < w5.heap.size := (by omega); have kcb5_1 : ∀ o, w5.cell? ⟨w.heap.size + 1, o, none⟩ = _ := fun o => b5.cell (p := ⟨w.heap.size + 1, o, none⟩) (by go_size); have kfb5_1 : ∀ o, w5.frozen? ⟨w.heap.size + 1, o, none⟩ = _ := fun o => b5.frozen (p := ⟨w.heap.size + 1, o, none⟩) (by go_size); clear zzb5
        go_wp2
        exact bodyPost_ret (v := .tuple #[.agg #[.int .i64 (u * s - v), .int .i64 (u * (-q)), .int .i64 (u * (-r)), .int .i64 (u * p - v)], .int .i64 0]) (by simp only [results, Tryz.results107]; go_simp) rfl ⟨congrArg Ending.returned HYES.out.symm, (by repeat' (first | (with_reducible exact Below.refl _ _) | (with_reducible assumption) | (with_reducible refine below_drewN ?_ _) | (with_reducible refine Below.drew ?_) | (with_reducible refine Below.alloc ?_ ?_ _) | (with_reducible refine Below.setCell ?_ ?_ _) | (with_reducible refine Below.trans ?_ (Below.mono (by with_reducible assumption) ?_)) | go_size | (dsimp only; omega)))⟩
end Go.Proofs.YtlkhhpckgcdeeaaGreatDoor
