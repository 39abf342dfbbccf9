/- Runs of the reference; the law of RunsOf. -/
import Derived.Test.YtgpnfjpnbchglaaAI
import Derived.Deep.DeepCutAuto
namespace Go.Proofs.Ytgpnfjpnbchglaa
open Go.RowKit
open Plain (oft Runs)
set_option linter.unusedVariables false
set_option linter.unusedSimpArgs false
attribute [local go_sem] run_min_int4 run_max_int4
attribute [local go_sem] run_equalIn_M
theorem l02Unit_c (w : World) :
    Calls Try.prog 49 #[] w fun e w' => e = .returned (.agg #[.int .i64 1, .int .i64 0, .int .i64 0, .int .i64 1]) ∧ Below w.heap.size w w' := by
  go_enter Try.func49, Try.ntmps49
  go_wp2
  go_returns
  exact ⟨rfl, (by repeat' (first | (with_reducible exact Below.refl _ _) | (with_reducible assumption) | (with_reducible refine below_drewN ?_ _) | (with_reducible refine Below.drew ?_) | (with_reducible refine Below.alloc ?_ ?_ _) | (with_reducible refine Below.setCell ?_ ?_ _) | (with_reducible refine Below.trans ?_ (Below.mono (by with_reducible assumption) ?_)) | go_size | (dsimp only; omega)))⟩
set_option maxRecDepth 100000 in
set_option maxHeartbeats 8000000 in
theorem l02Runs_c (p q r s : Int) (w : World) (zs : List Int) (h : isM p q r s = true) (hp : posM p q r s = true) (hc : Runs true p q r s zs) (hl : zs.length ≤ 4000000001) :
    Calls Try.prog 57 #[.agg #[.int .i64 p, .int .i64 q, .int .i64 r, .int .i64 s]] w fun e w' => ∃ v, e = .returned v ∧ OwnI w.heap.size w' v zs ∧ Below w.heap.size w w' := by
  obtain ⟨i0, hi, hz0, hz1, hz2⟩ := info_parts info_i64
  have hown0 := own_new (w.alloc (Obj.cells #[.int .i64 p, .int .i64 q, .int .i64 r, .int .i64 s] 25)) (w.heap.size + 1) 2 1 (by simp)
  simp only [World.size_alloc] at hown0
  have HC := Lib.hid hc
  have HM := Lib.hid (isM_pos h hp)
  clear hc h hp
  go_enter Try.func57, Try.ntmps57
  go_wp2
  go_loopw [3, 4] (fun v t wr => ∃ (a b c d : Int) (n : Nat) (rest : List Int), t = .int .i64 n ∧ Hid (isB a b c d) ∧ Hid (Runs (n % 2 == 0) a b c d rest) ∧ n + rest.length = zs.length ∧ Hid (zs.take n ++ rest = zs) ∧
      wr.ownsRow (w.heap.size + 1) 2 1 v n ((zs.take n).map (Value.int .i64)) ∧
      wr.cell? ⟨w.heap.size, 0, none⟩ = some (.int .i64 a) ∧ wr.cell? ⟨w.heap.size, 1, none⟩ = some (.int .i64 b) ∧ wr.cell? ⟨w.heap.size, 2, none⟩ = some (.int .i64 c) ∧ wr.cell? ⟨w.heap.size, 3, none⟩ = some (.int .i64 d) ∧
      (∀ i, wr.frozen? ⟨w.heap.size, i, none⟩ = false) ∧ Below w.heap.size w wr ∧ w.heap.size + 1 < wr.heap.size) (fun v t wr => zs.length - lenOf v)
  case atStart => exact ⟨p, q, r, s, 0, zs, rfl, HM.out, HC.out, by omega, Lib.hid (by simp), by simpa using hown0, by go_cell, by go_cell, by go_cell, by go_cell, (by intro i; first | (simp; done) | (go_simp; done)), (by repeat' (first | (with_reducible exact Below.refl _ _) | (with_reducible assumption) | (with_reducible refine below_drewN ?_ _) | (with_reducible refine Below.drew ?_) | (with_reducible refine Below.alloc ?_ ?_ _) | (with_reducible refine Below.setCell ?_ ?_ _) | (with_reducible refine Below.trans ?_ (Below.mono (by with_reducible assumption) ?_)) | go_size | (dsimp only; omega))), by simp⟩
  case round =>
    obtain ⟨a, b, c, d, n, rest, rfl, HM2, HC2, hn, HT, hown, c0, c1, c2, c3, fw, hB, hsz⟩ := hrel
    clear hown0
    have hlen := lenOf_row hown
    have HLEN := Lib.hid hlen
    clear hlen
    obtain ⟨⟨ha0, ha1⟩, ⟨hb0, hb1⟩, ⟨hc0, hc1⟩, ⟨hd0, hd1⟩, hdet⟩ := HM2.out
    have hdr := Plain.det_row hdet
    have HD := Lib.hid hdet
    have HDR := Lib.hid hdr
    clear hdet hdr
    have hw : w.heap.size < wr.heap.size := by omega
    by_cases hI : a = 1 ∧ b = 0 ∧ c = 0 ∧ d = 1
    · obtain ⟨rfl, rfl, rfl, rfl⟩ := hI
      obtain rfl := HC2.out.inv_stop
      go_wp2_with fail
      go_region_held3 (fun w' => w'.cell? ⟨w.heap.size, 0, none⟩ = some (.int .i64 1) ∧ w'.cell? ⟨w.heap.size, 1, none⟩ = some (.int .i64 0) ∧ w'.cell? ⟨w.heap.size, 2, none⟩ = some (.int .i64 0) ∧ w'.cell? ⟨w.heap.size, 3, none⟩ = some (.int .i64 1)) (go_keep) ((go_at_call 49; refine (l02Unit_c _).mono ?_; rintro e w3 ⟨rfl, hb⟩; have zzhb := hb.size; (try simp at zzhb); have zhb_0 : w.heap.size < w3.heap.size := (by omega); have kchb_0 : ∀ o, w3.cell? ⟨w.heap.size, o, none⟩ = _ := fun o => hb.cell (p := ⟨w.heap.size, o, none⟩) (by go_size); have kfhb_0 : ∀ o, w3.frozen? ⟨w.heap.size, o, none⟩ = _ := fun o => hb.frozen (p := ⟨w.heap.size, o, none⟩) (by go_size); clear zzhb))
      go_wp2
      have e1 : n = zs.length := hn
      have e2 : (zs.take n) = zs := by simpa using HT.out
      rw [e2, e1] at hown
      have hown3 := own_below (own_drew hown) hb (Nat.le_refl _)
      exact bodyPost_ret (v := _) (by simp only [results, Try.results57]; go_simp) rfl ⟨_, rfl, OwnI.base (OwnI.of_row hown3) (by omega), (by repeat' (first | (with_reducible exact Below.refl _ _) | (with_reducible assumption) | (with_reducible refine below_drewN ?_ _) | (with_reducible refine Below.drew ?_) | (with_reducible refine Below.alloc ?_ ?_ _) | (with_reducible refine Below.setCell ?_ ?_ _) | (with_reducible refine Below.trans ?_ (Below.mono (by with_reducible assumption) ?_)) | go_size | (dsimp only; omega)))⟩
    · have hI' : (a == 1 && (b == 0 && (c == 0 && d == 1))) = false := by simpa using hI
      by_cases hpar : n % 2 = 0
      · obtain ⟨l, rfl, hc3⟩ := HC2.out.inv_up (by simp; omega) hI
        have hoft : oft a b c d = if c = 0 then b / d else if d = 0 then a / c else min (a / c) (b / d) := rfl
        obtain ⟨o1, o2, o3, o4⟩ := Plain.oft_spec ha0 hb0 hc0 hd0 HDR.out.1
        have hd2 := Plain.det_up (oft a b c d) HD.out
        generalize hq : oft a b c d = k at *
        have kc0 : 0 ≤ k * c := Int.mul_nonneg o1 hc0
        have kd0 : 0 ≤ k * d := Int.mul_nonneg o1 hd0
        have hN : isB (a - k * c) (b - k * d) c d := ⟨⟨o2, by omega⟩, ⟨o3, by omega⟩, ⟨hc0, hc1⟩, ⟨hd0, hd1⟩, hd2⟩
        have HQ := Lib.hid hoft
        have HN := Lib.hid hN
        have HC3 := Lib.hid hc3
        have HZ := HDR.out.1
        clear hq hN hc3 hd2 o4 hoft
        have e1 : (n : Int) % 2 = 0 := by omega
        obtain ⟨xa, xc, rfl⟩ := own_form hown
        have qa := Int.ediv_nonneg ha0 hc0
        have qb := Int.ediv_nonneg hb0 hd0
        have qa1 := Int.ediv_le_self c ha0
        have qb1 := Int.ediv_le_self d hb0
        have wa : IntKind.i64.wrap (a.tdiv c) = a / c := by rw [Int.tdiv_eq_ediv_of_nonneg ha0]; exact IntWalk.i64_in _ (by omega)
        have wb : IntKind.i64.wrap (b.tdiv d) = b / d := by rw [Int.tdiv_eq_ediv_of_nonneg hb0]; exact IntWalk.i64_in _ (by omega)
        generalize a / c = x at *
        generalize b / d = y at *
        go_wp2_with fail
        go_region_held3 (fun w' => w'.cell? ⟨w.heap.size, 0, none⟩ = some (.int .i64 a) ∧ w'.cell? ⟨w.heap.size, 1, none⟩ = some (.int .i64 b) ∧ w'.cell? ⟨w.heap.size, 2, none⟩ = some (.int .i64 c) ∧ w'.cell? ⟨w.heap.size, 3, none⟩ = some (.int .i64 d)) (go_keep) ((go_at_call 49; refine (l02Unit_c _).mono ?_; rintro e w3 ⟨rfl, hb⟩; have zzhb := hb.size; (try simp at zzhb); have zhb_0 : w.heap.size < w3.heap.size := (by omega); have kchb_0 : ∀ o, w3.cell? ⟨w.heap.size, o, none⟩ = _ := fun o => hb.cell (p := ⟨w.heap.size, o, none⟩) (by go_size); have kfhb_0 : ∀ o, w3.frozen? ⟨w.heap.size, o, none⟩ = _ := fun o => hb.frozen (p := ⟨w.heap.size, o, none⟩) (by go_size); clear zzhb))
        have hown3 := own_below (own_drew hown) hb (Nat.le_refl _)
        have hB3 : Below w.heap.size w w3 := (by repeat' (first | (with_reducible exact Below.refl _ _) | (with_reducible assumption) | (with_reducible refine below_drewN ?_ _) | (with_reducible refine Below.drew ?_) | (with_reducible refine Below.alloc ?_ ?_ _) | (with_reducible refine Below.setCell ?_ ?_ _) | (with_reducible refine Below.trans ?_ (Below.mono (by with_reducible assumption) ?_)) | go_size | (dsimp only; omega)))
        have hs3 : w.heap.size + 1 < w3.heap.size := by have h1 := hb.size; simp at h1; omega
        have k0 : w3.cell? ⟨w.heap.size, 0, none⟩ = some (.int .i64 a) := by go_simp
        have k1 : w3.cell? ⟨w.heap.size, 1, none⟩ = some (.int .i64 b) := by go_simp
        have k2 : w3.cell? ⟨w.heap.size, 2, none⟩ = some (.int .i64 c) := by go_simp
        have k3 : w3.cell? ⟨w.heap.size, 3, none⟩ = some (.int .i64 d) := by go_simp
        have k4 : ∀ i, w3.frozen? ⟨w.heap.size, i, none⟩ = false := by intro i; go_simp
        have HPAR := Lib.hid hpar
        have m0 : -1000000000 ≤ k * c ∧ k * c ≤ 1000000000 := by omega
        have m1 : -1000000000 ≤ k * d ∧ k * d ≤ 1000000000 := by omega
        obtain ⟨m00, m01⟩ := m0
        obtain ⟨m10, m11⟩ := m1
        clear hpar hI hI' hown hB kchb_0 kfhb_0 c0 c1 c2 c3 fw hb
        go_wp2
        by_cases hzc : c = 0
        · have hne : ¬ d = 0 := by omega
          have z2 : decide (0 < d) = true := by simp; omega
          have n2 : (d == 0) = false := by simpa using hne
          obtain rfl : k = y := by rw [HQ.out, if_pos hzc]
          refine wp_loop_rounds 3 ?_
          rw [rounds_succ]
          go_wp2
          rw [rounds_succ]
          go_wp2
          go_quiet (fail)
          go_wp2
          rw [rounds_succ]
          go_upto_region 13 with fail
          generalize hw5 : World.drewN _ _ = w5
          have hown5 : w5.ownsRow (w.heap.size + 1) 2 1 (.slice xa n xc) n ((zs.take n).map (Value.int .i64)) := by subst hw5; exact own_drewN hown3
          have hB5 : Below w.heap.size w w5 := by subst hw5; exact (by repeat' (first | (with_reducible exact Below.refl _ _) | (with_reducible assumption) | (with_reducible refine below_drewN ?_ _) | (with_reducible refine Below.drew ?_) | (with_reducible refine Below.alloc ?_ ?_ _) | (with_reducible refine Below.setCell ?_ ?_ _) | (with_reducible refine Below.trans ?_ (Below.mono (by with_reducible assumption) ?_)) | go_size | (dsimp only; omega)))
          have hs5 : w.heap.size + 1 < w5.heap.size := by subst hw5; simpa using hs3
          have d0 : w5.cell? ⟨w.heap.size, 0, none⟩ = some (.int .i64 a) := by subst hw5; simpa using k0
          have d1 : w5.cell? ⟨w.heap.size, 1, none⟩ = some (.int .i64 b) := by subst hw5; simpa using k1
          have d2 : w5.cell? ⟨w.heap.size, 2, none⟩ = some (.int .i64 c) := by subst hw5; simpa using k2
          have d3 : w5.cell? ⟨w.heap.size, 3, none⟩ = some (.int .i64 d) := by subst hw5; simpa using k3
          have d4 : ∀ i, w5.frozen? ⟨w.heap.size, i, none⟩ = false := by subst hw5; intro i; simpa using k4 i
          clear hw5 k0 k1 k2 k3 k4 hown3 hB3 hs3
          go_region
          go_wp2
          go_region
          go_upto_region 15 with fail
          generalize hw7 : World.drew _ = w7
          have hown7 : w7.ownsRow (w.heap.size + 1) 2 1 (.slice xa n xc) n ((zs.take n).map (Value.int .i64)) := by subst hw7; exact own_drew (own_set (own_drew (own_set hown5 (by dsimp only; omega))) (by dsimp only; omega))
          have hB7 : Below w.heap.size w w7 := by subst hw7; exact (by repeat' (first | (with_reducible exact Below.refl _ _) | (with_reducible assumption) | (with_reducible refine below_drewN ?_ _) | (with_reducible refine Below.drew ?_) | (with_reducible refine Below.alloc ?_ ?_ _) | (with_reducible refine Below.setCell ?_ ?_ _) | (with_reducible refine Below.trans ?_ (Below.mono (by with_reducible assumption) ?_)) | go_size | (dsimp only; omega)))
          have hs7 : w.heap.size + 1 < w7.heap.size := by subst hw7; go_size
          have f0 : w7.cell? ⟨w.heap.size, 0, none⟩ = some (.int .i64 (a - k * c)) := by subst hw7; go_simp
          have f1 : w7.cell? ⟨w.heap.size, 1, none⟩ = some (.int .i64 (b - k * d)) := by subst hw7; go_simp
          have f2 : w7.cell? ⟨w.heap.size, 2, none⟩ = some (.int .i64 (c)) := by subst hw7; go_simp
          have f3 : w7.cell? ⟨w.heap.size, 3, none⟩ = some (.int .i64 (d)) := by subst hw7; go_simp
          have f4 : ∀ i, w7.frozen? ⟨w.heap.size, i, none⟩ = false := by subst hw7; intro i; go_simp
          clear hw7 d0 d1 d2 d3 d4 hown5 hB5 hs5
          go_wp2_with (at_builtin; refine wpList_append_own _ rfl _ _ 27 rfl (w.heap.size + 1) 2 i0 (.int .i64 0) 1 8 under_i64s hi hz0 hz1 hz2 rfl (by decide) _ _ _ rfl (hown7.alloc _) ⟨w7.heap.size, 0, none⟩ 1 1 [.int .i64 k] rfl rfl (cell_one_new _ _ _) (fun x hx => by simp at hx; subst hx; rfl) (by unfold maxLen; omega) (by omega) (by simp; omega) ?_; intro v' w8 hown8 hgrow8 hnil8; obtain ⟨hB8, hs8, fc8, ff8⟩ := app_after hown7 hgrow8 hB7 (by omega) (by omega); have fc := fun o => fc8 w.heap.size o (by omega); have ff := fun o => ff8 w.heap.size o (by omega); clear fc8 ff8 hgrow8 hnil8)
          go_roundw
          case rel => exact ⟨_, _, _, _, n + 1, l, by go_num, HN.out, by rw [show ((n + 1) % 2 == 0) = false from by have := HPAR.out; simp; omega]; exact HC3.out, by simp at hn; omega, own_step1 HT.out, own_step2 HT.out hown8, by rw [fc]; exact f0, by rw [fc]; exact f1, by rw [fc]; exact f2, by rw [fc]; exact f3, (by intro i; rw [ff]; exact f4 i), hB8, by omega⟩
          case measure => (have e1 := lenOf_row hown8; have e2 := HLEN.out; simp at hn; omega)
        · have z1 : decide (0 < c) = true := by simp; omega
          have n1 : (c == 0) = false := by simpa using hzc
          by_cases hzd : d = 0
          · obtain rfl : k = x := by rw [HQ.out, if_neg hzc, if_pos hzd]
            refine wp_loop_rounds 3 ?_
            rw [rounds_succ]
            go_wp2
            go_quiet (fail)
            go_wp2
            rw [rounds_succ]
            go_wp2
            rw [rounds_succ]
            go_upto_region 13 with fail
            generalize hw5 : World.drewN _ _ = w5
            have hown5 : w5.ownsRow (w.heap.size + 1) 2 1 (.slice xa n xc) n ((zs.take n).map (Value.int .i64)) := by subst hw5; first | exact own_drewN hown3 | exact own_drewN (own_drewN hown3)
            have hB5 : Below w.heap.size w w5 := by subst hw5; exact (by repeat' (first | (with_reducible exact Below.refl _ _) | (with_reducible assumption) | (with_reducible refine below_drewN ?_ _) | (with_reducible refine Below.drew ?_) | (with_reducible refine Below.alloc ?_ ?_ _) | (with_reducible refine Below.setCell ?_ ?_ _) | (with_reducible refine Below.trans ?_ (Below.mono (by with_reducible assumption) ?_)) | go_size | (dsimp only; omega)))
            have hs5 : w.heap.size + 1 < w5.heap.size := by subst hw5; simpa using hs3
            have d0 : w5.cell? ⟨w.heap.size, 0, none⟩ = some (.int .i64 a) := by subst hw5; simpa using k0
            have d1 : w5.cell? ⟨w.heap.size, 1, none⟩ = some (.int .i64 b) := by subst hw5; simpa using k1
            have d2 : w5.cell? ⟨w.heap.size, 2, none⟩ = some (.int .i64 c) := by subst hw5; simpa using k2
            have d3 : w5.cell? ⟨w.heap.size, 3, none⟩ = some (.int .i64 d) := by subst hw5; simpa using k3
            have d4 : ∀ i, w5.frozen? ⟨w.heap.size, i, none⟩ = false := by subst hw5; intro i; simpa using k4 i
            clear hw5 k0 k1 k2 k3 k4 hown3 hB3 hs3
            go_region
            go_wp2
            go_region
            go_upto_region 15 with fail
            generalize hw7 : World.drew _ = w7
            have hown7 : w7.ownsRow (w.heap.size + 1) 2 1 (.slice xa n xc) n ((zs.take n).map (Value.int .i64)) := by subst hw7; exact own_drew (own_set (own_drew (own_set hown5 (by dsimp only; omega))) (by dsimp only; omega))
            have hB7 : Below w.heap.size w w7 := by subst hw7; exact (by repeat' (first | (with_reducible exact Below.refl _ _) | (with_reducible assumption) | (with_reducible refine below_drewN ?_ _) | (with_reducible refine Below.drew ?_) | (with_reducible refine Below.alloc ?_ ?_ _) | (with_reducible refine Below.setCell ?_ ?_ _) | (with_reducible refine Below.trans ?_ (Below.mono (by with_reducible assumption) ?_)) | go_size | (dsimp only; omega)))
            have hs7 : w.heap.size + 1 < w7.heap.size := by subst hw7; go_size
            have f0 : w7.cell? ⟨w.heap.size, 0, none⟩ = some (.int .i64 (a - k * c)) := by subst hw7; go_simp
            have f1 : w7.cell? ⟨w.heap.size, 1, none⟩ = some (.int .i64 (b - k * d)) := by subst hw7; go_simp
            have f2 : w7.cell? ⟨w.heap.size, 2, none⟩ = some (.int .i64 (c)) := by subst hw7; go_simp
            have f3 : w7.cell? ⟨w.heap.size, 3, none⟩ = some (.int .i64 (d)) := by subst hw7; go_simp
            have f4 : ∀ i, w7.frozen? ⟨w.heap.size, i, none⟩ = false := by subst hw7; intro i; go_simp
            clear hw7 d0 d1 d2 d3 d4 hown5 hB5 hs5
            go_wp2_with (at_builtin; refine wpList_append_own _ rfl _ _ 27 rfl (w.heap.size + 1) 2 i0 (.int .i64 0) 1 8 under_i64s hi hz0 hz1 hz2 rfl (by decide) _ _ _ rfl (hown7.alloc _) ⟨w7.heap.size, 0, none⟩ 1 1 [.int .i64 k] rfl rfl (cell_one_new _ _ _) (fun x hx => by simp at hx; subst hx; rfl) (by unfold maxLen; omega) (by omega) (by simp; omega) ?_; intro v' w8 hown8 hgrow8 hnil8; obtain ⟨hB8, hs8, fc8, ff8⟩ := app_after hown7 hgrow8 hB7 (by omega) (by omega); have fc := fun o => fc8 w.heap.size o (by omega); have ff := fun o => ff8 w.heap.size o (by omega); clear fc8 ff8 hgrow8 hnil8)
            go_roundw
            case rel => exact ⟨_, _, _, _, n + 1, l, by go_num, HN.out, by rw [show ((n + 1) % 2 == 0) = false from by have := HPAR.out; simp; omega]; exact HC3.out, by simp at hn; omega, own_step1 HT.out, own_step2 HT.out hown8, by rw [fc]; exact f0, by rw [fc]; exact f1, by rw [fc]; exact f2, by rw [fc]; exact f3, (by intro i; rw [ff]; exact f4 i), hB8, by omega⟩
            case measure => (have e1 := lenOf_row hown8; have e2 := HLEN.out; simp at hn; omega)
          · have z2 : decide (0 < d) = true := by simp; omega
            have n2 : (d == 0) = false := by simpa using hzd
            by_cases hxy : y < x
            · have hxy' : decide (y < x) = true := decide_eq_true hxy
              obtain rfl : k = y := by rw [HQ.out, if_neg hzc, if_neg hzd]; omega
              refine wp_loop_rounds 3 ?_
              rw [rounds_succ]
              go_wp2
              go_quiet (fail)
              go_wp2
              rw [rounds_succ]
              go_wp2
              go_quiet (fail)
              go_wp2
              rw [rounds_succ]
              go_upto_region 13 with fail
              generalize hw5 : World.drewN _ _ = w5
              have hown5 : w5.ownsRow (w.heap.size + 1) 2 1 (.slice xa n xc) n ((zs.take n).map (Value.int .i64)) := by subst hw5; first | exact own_drewN hown3 | exact own_drewN (own_drewN hown3)
              have hB5 : Below w.heap.size w w5 := by subst hw5; exact (by repeat' (first | (with_reducible exact Below.refl _ _) | (with_reducible assumption) | (with_reducible refine below_drewN ?_ _) | (with_reducible refine Below.drew ?_) | (with_reducible refine Below.alloc ?_ ?_ _) | (with_reducible refine Below.setCell ?_ ?_ _) | (with_reducible refine Below.trans ?_ (Below.mono (by with_reducible assumption) ?_)) | go_size | (dsimp only; omega)))
              have hs5 : w.heap.size + 1 < w5.heap.size := by subst hw5; simpa using hs3
              have d0 : w5.cell? ⟨w.heap.size, 0, none⟩ = some (.int .i64 a) := by subst hw5; simpa using k0
              have d1 : w5.cell? ⟨w.heap.size, 1, none⟩ = some (.int .i64 b) := by subst hw5; simpa using k1
              have d2 : w5.cell? ⟨w.heap.size, 2, none⟩ = some (.int .i64 c) := by subst hw5; simpa using k2
              have d3 : w5.cell? ⟨w.heap.size, 3, none⟩ = some (.int .i64 d) := by subst hw5; simpa using k3
              have d4 : ∀ i, w5.frozen? ⟨w.heap.size, i, none⟩ = false := by subst hw5; intro i; simpa using k4 i
              clear hw5 k0 k1 k2 k3 k4 hown3 hB3 hs3
              go_region
              go_wp2
              go_region
              go_upto_region 15 with fail
              generalize hw7 : World.drew _ = w7
              have hown7 : w7.ownsRow (w.heap.size + 1) 2 1 (.slice xa n xc) n ((zs.take n).map (Value.int .i64)) := by subst hw7; exact own_drew (own_set (own_drew (own_set hown5 (by dsimp only; omega))) (by dsimp only; omega))
              have hB7 : Below w.heap.size w w7 := by subst hw7; exact (by repeat' (first | (with_reducible exact Below.refl _ _) | (with_reducible assumption) | (with_reducible refine below_drewN ?_ _) | (with_reducible refine Below.drew ?_) | (with_reducible refine Below.alloc ?_ ?_ _) | (with_reducible refine Below.setCell ?_ ?_ _) | (with_reducible refine Below.trans ?_ (Below.mono (by with_reducible assumption) ?_)) | go_size | (dsimp only; omega)))
              have hs7 : w.heap.size + 1 < w7.heap.size := by subst hw7; go_size
              have f0 : w7.cell? ⟨w.heap.size, 0, none⟩ = some (.int .i64 (a - k * c)) := by subst hw7; go_simp
              have f1 : w7.cell? ⟨w.heap.size, 1, none⟩ = some (.int .i64 (b - k * d)) := by subst hw7; go_simp
              have f2 : w7.cell? ⟨w.heap.size, 2, none⟩ = some (.int .i64 (c)) := by subst hw7; go_simp
              have f3 : w7.cell? ⟨w.heap.size, 3, none⟩ = some (.int .i64 (d)) := by subst hw7; go_simp
              have f4 : ∀ i, w7.frozen? ⟨w.heap.size, i, none⟩ = false := by subst hw7; intro i; go_simp
              clear hw7 d0 d1 d2 d3 d4 hown5 hB5 hs5
              go_wp2_with (at_builtin; refine wpList_append_own _ rfl _ _ 27 rfl (w.heap.size + 1) 2 i0 (.int .i64 0) 1 8 under_i64s hi hz0 hz1 hz2 rfl (by decide) _ _ _ rfl (hown7.alloc _) ⟨w7.heap.size, 0, none⟩ 1 1 [.int .i64 k] rfl rfl (cell_one_new _ _ _) (fun x hx => by simp at hx; subst hx; rfl) (by unfold maxLen; omega) (by omega) (by simp; omega) ?_; intro v' w8 hown8 hgrow8 hnil8; obtain ⟨hB8, hs8, fc8, ff8⟩ := app_after hown7 hgrow8 hB7 (by omega) (by omega); have fc := fun o => fc8 w.heap.size o (by omega); have ff := fun o => ff8 w.heap.size o (by omega); clear fc8 ff8 hgrow8 hnil8)
              go_roundw
              case rel => exact ⟨_, _, _, _, n + 1, l, by go_num, HN.out, by rw [show ((n + 1) % 2 == 0) = false from by have := HPAR.out; simp; omega]; exact HC3.out, by simp at hn; omega, own_step1 HT.out, own_step2 HT.out hown8, by rw [fc]; exact f0, by rw [fc]; exact f1, by rw [fc]; exact f2, by rw [fc]; exact f3, (by intro i; rw [ff]; exact f4 i), hB8, by omega⟩
              case measure => (have e1 := lenOf_row hown8; have e2 := HLEN.out; simp at hn; omega)
            · have hxy' : decide (y < x) = false := decide_eq_false hxy
              obtain rfl : k = x := by rw [HQ.out, if_neg hzc, if_neg hzd]; omega
              refine wp_loop_rounds 3 ?_
              rw [rounds_succ]
              go_wp2
              go_quiet (fail)
              go_wp2
              rw [rounds_succ]
              go_wp2
              go_quiet (fail)
              go_wp2
              rw [rounds_succ]
              go_upto_region 13 with fail
              generalize hw5 : World.drewN _ _ = w5
              have hown5 : w5.ownsRow (w.heap.size + 1) 2 1 (.slice xa n xc) n ((zs.take n).map (Value.int .i64)) := by subst hw5; first | exact own_drewN hown3 | exact own_drewN (own_drewN hown3)
              have hB5 : Below w.heap.size w w5 := by subst hw5; exact (by repeat' (first | (with_reducible exact Below.refl _ _) | (with_reducible assumption) | (with_reducible refine below_drewN ?_ _) | (with_reducible refine Below.drew ?_) | (with_reducible refine Below.alloc ?_ ?_ _) | (with_reducible refine Below.setCell ?_ ?_ _) | (with_reducible refine Below.trans ?_ (Below.mono (by with_reducible assumption) ?_)) | go_size | (dsimp only; omega)))
              have hs5 : w.heap.size + 1 < w5.heap.size := by subst hw5; simpa using hs3
              have d0 : w5.cell? ⟨w.heap.size, 0, none⟩ = some (.int .i64 a) := by subst hw5; simpa using k0
              have d1 : w5.cell? ⟨w.heap.size, 1, none⟩ = some (.int .i64 b) := by subst hw5; simpa using k1
              have d2 : w5.cell? ⟨w.heap.size, 2, none⟩ = some (.int .i64 c) := by subst hw5; simpa using k2
              have d3 : w5.cell? ⟨w.heap.size, 3, none⟩ = some (.int .i64 d) := by subst hw5; simpa using k3
              have d4 : ∀ i, w5.frozen? ⟨w.heap.size, i, none⟩ = false := by subst hw5; intro i; simpa using k4 i
              clear hw5 k0 k1 k2 k3 k4 hown3 hB3 hs3
              go_region
              go_wp2
              go_region
              go_upto_region 15 with fail
              generalize hw7 : World.drew _ = w7
              have hown7 : w7.ownsRow (w.heap.size + 1) 2 1 (.slice xa n xc) n ((zs.take n).map (Value.int .i64)) := by subst hw7; exact own_drew (own_set (own_drew (own_set hown5 (by dsimp only; omega))) (by dsimp only; omega))
              have hB7 : Below w.heap.size w w7 := by subst hw7; exact (by repeat' (first | (with_reducible exact Below.refl _ _) | (with_reducible assumption) | (with_reducible refine below_drewN ?_ _) | (with_reducible refine Below.drew ?_) | (with_reducible refine Below.alloc ?_ ?_ _) | (with_reducible refine Below.setCell ?_ ?_ _) | (with_reducible refine Below.trans ?_ (Below.mono (by with_reducible assumption) ?_)) | go_size | (dsimp only; omega)))
              have hs7 : w.heap.size + 1 < w7.heap.size := by subst hw7; go_size
              have f0 : w7.cell? ⟨w.heap.size, 0, none⟩ = some (.int .i64 (a - k * c)) := by subst hw7; go_simp
              have f1 : w7.cell? ⟨w.heap.size, 1, none⟩ = some (.int .i64 (b - k * d)) := by subst hw7; go_simp
              have f2 : w7.cell? ⟨w.heap.size, 2, none⟩ = some (.int .i64 (c)) := by subst hw7; go_simp
              have f3 : w7.cell? ⟨w.heap.size, 3, none⟩ = some (.int .i64 (d)) := by subst hw7; go_simp
              have f4 : ∀ i, w7.frozen? ⟨w.heap.size, i, none⟩ = false := by subst hw7; intro i; go_simp
              clear hw7 d0 d1 d2 d3 d4 hown5 hB5 hs5
              go_wp2_with (at_builtin; refine wpList_append_own _ rfl _ _ 27 rfl (w.heap.size + 1) 2 i0 (.int .i64 0) 1 8 under_i64s hi hz0 hz1 hz2 rfl (by decide) _ _ _ rfl (hown7.alloc _) ⟨w7.heap.size, 0, none⟩ 1 1 [.int .i64 k] rfl rfl (cell_one_new _ _ _) (fun x hx => by simp at hx; subst hx; rfl) (by unfold maxLen; omega) (by omega) (by simp; omega) ?_; intro v' w8 hown8 hgrow8 hnil8; obtain ⟨hB8, hs8, fc8, ff8⟩ := app_after hown7 hgrow8 hB7 (by omega) (by omega); have fc := fun o => fc8 w.heap.size o (by omega); have ff := fun o => ff8 w.heap.size o (by omega); clear fc8 ff8 hgrow8 hnil8)
              go_roundw
              case rel => exact ⟨_, _, _, _, n + 1, l, by go_num, HN.out, by rw [show ((n + 1) % 2 == 0) = false from by have := HPAR.out; simp; omega]; exact HC3.out, by simp at hn; omega, own_step1 HT.out, own_step2 HT.out hown8, by rw [fc]; exact f0, by rw [fc]; exact f1, by rw [fc]; exact f2, by rw [fc]; exact f3, (by intro i; rw [ff]; exact f4 i), hB8, by omega⟩
              case measure => (have e1 := lenOf_row hown8; have e2 := HLEN.out; simp at hn; omega)
      · obtain ⟨l, rfl, hc3⟩ := HC2.out.inv_down (by simp; omega) hI
        have hoft : oft c d a b = if a = 0 then d / b else if b = 0 then c / a else min (c / a) (d / b) := rfl
        obtain ⟨o1, o2, o3, o4⟩ := Plain.oft_spec hc0 hd0 ha0 hb0 HDR.out.2
        have hd2 := Plain.det_down (oft c d a b) HD.out
        generalize hq : oft c d a b = k at *
        have kc0 : 0 ≤ k * a := Int.mul_nonneg o1 ha0
        have kd0 : 0 ≤ k * b := Int.mul_nonneg o1 hb0
        have hN : isB a b (c - k * a) (d - k * b) := ⟨⟨ha0, ha1⟩, ⟨hb0, hb1⟩, ⟨o2, by omega⟩, ⟨o3, by omega⟩, hd2⟩
        have HQ := Lib.hid hoft
        have HN := Lib.hid hN
        have HC3 := Lib.hid hc3
        have HZ := HDR.out.2
        clear hq hN hc3 hd2 o4 hoft
        have e1 : (n : Int) % 2 = 1 := by omega
        obtain ⟨xa, xc, rfl⟩ := own_form hown
        have qa := Int.ediv_nonneg hc0 ha0
        have qb := Int.ediv_nonneg hd0 hb0
        have qa1 := Int.ediv_le_self a hc0
        have qb1 := Int.ediv_le_self b hd0
        have wa : IntKind.i64.wrap (c.tdiv a) = c / a := by rw [Int.tdiv_eq_ediv_of_nonneg hc0]; exact IntWalk.i64_in _ (by omega)
        have wb : IntKind.i64.wrap (d.tdiv b) = d / b := by rw [Int.tdiv_eq_ediv_of_nonneg hd0]; exact IntWalk.i64_in _ (by omega)
        generalize c / a = x at *
        generalize d / b = y at *
        go_wp2_with fail
        go_region_held3 (fun w' => w'.cell? ⟨w.heap.size, 0, none⟩ = some (.int .i64 a) ∧ w'.cell? ⟨w.heap.size, 1, none⟩ = some (.int .i64 b) ∧ w'.cell? ⟨w.heap.size, 2, none⟩ = some (.int .i64 c) ∧ w'.cell? ⟨w.heap.size, 3, none⟩ = some (.int .i64 d)) (go_keep) ((go_at_call 49; refine (l02Unit_c _).mono ?_; rintro e w3 ⟨rfl, hb⟩; have zzhb := hb.size; (try simp at zzhb); have zhb_0 : w.heap.size < w3.heap.size := (by omega); have kchb_0 : ∀ o, w3.cell? ⟨w.heap.size, o, none⟩ = _ := fun o => hb.cell (p := ⟨w.heap.size, o, none⟩) (by go_size); have kfhb_0 : ∀ o, w3.frozen? ⟨w.heap.size, o, none⟩ = _ := fun o => hb.frozen (p := ⟨w.heap.size, o, none⟩) (by go_size); clear zzhb))
        have hown3 := own_below (own_drew hown) hb (Nat.le_refl _)
        have hB3 : Below w.heap.size w w3 := (by repeat' (first | (with_reducible exact Below.refl _ _) | (with_reducible assumption) | (with_reducible refine below_drewN ?_ _) | (with_reducible refine Below.drew ?_) | (with_reducible refine Below.alloc ?_ ?_ _) | (with_reducible refine Below.setCell ?_ ?_ _) | (with_reducible refine Below.trans ?_ (Below.mono (by with_reducible assumption) ?_)) | go_size | (dsimp only; omega)))
        have hs3 : w.heap.size + 1 < w3.heap.size := by have h1 := hb.size; simp at h1; omega
        have k0 : w3.cell? ⟨w.heap.size, 0, none⟩ = some (.int .i64 a) := by go_simp
        have k1 : w3.cell? ⟨w.heap.size, 1, none⟩ = some (.int .i64 b) := by go_simp
        have k2 : w3.cell? ⟨w.heap.size, 2, none⟩ = some (.int .i64 c) := by go_simp
        have k3 : w3.cell? ⟨w.heap.size, 3, none⟩ = some (.int .i64 d) := by go_simp
        have k4 : ∀ i, w3.frozen? ⟨w.heap.size, i, none⟩ = false := by intro i; go_simp
        have HPAR := Lib.hid hpar
        have m0 : -1000000000 ≤ k * a ∧ k * a ≤ 1000000000 := by omega
        have m1 : -1000000000 ≤ k * b ∧ k * b ≤ 1000000000 := by omega
        obtain ⟨m00, m01⟩ := m0
        obtain ⟨m10, m11⟩ := m1
        clear hpar hI hI' hown hB kchb_0 kfhb_0 c0 c1 c2 c3 fw hb
        go_wp2
        by_cases hzc : a = 0
        · have hne : ¬ b = 0 := by omega
          have z2 : decide (0 < b) = true := by simp; omega
          have n2 : (b == 0) = false := by simpa using hne
          obtain rfl : k = y := by rw [HQ.out, if_pos hzc]
          refine wp_loop_rounds 3 ?_
          rw [rounds_succ]
          go_wp2
          rw [rounds_succ]
          go_wp2
          go_quiet (fail)
          go_wp2
          rw [rounds_succ]
          go_upto_region 13 with fail
          generalize hw5 : World.drewN _ _ = w5
          have hown5 : w5.ownsRow (w.heap.size + 1) 2 1 (.slice xa n xc) n ((zs.take n).map (Value.int .i64)) := by subst hw5; exact own_drewN hown3
          have hB5 : Below w.heap.size w w5 := by subst hw5; exact (by repeat' (first | (with_reducible exact Below.refl _ _) | (with_reducible assumption) | (with_reducible refine below_drewN ?_ _) | (with_reducible refine Below.drew ?_) | (with_reducible refine Below.alloc ?_ ?_ _) | (with_reducible refine Below.setCell ?_ ?_ _) | (with_reducible refine Below.trans ?_ (Below.mono (by with_reducible assumption) ?_)) | go_size | (dsimp only; omega)))
          have hs5 : w.heap.size + 1 < w5.heap.size := by subst hw5; simpa using hs3
          have d0 : w5.cell? ⟨w.heap.size, 0, none⟩ = some (.int .i64 a) := by subst hw5; simpa using k0
          have d1 : w5.cell? ⟨w.heap.size, 1, none⟩ = some (.int .i64 b) := by subst hw5; simpa using k1
          have d2 : w5.cell? ⟨w.heap.size, 2, none⟩ = some (.int .i64 c) := by subst hw5; simpa using k2
          have d3 : w5.cell? ⟨w.heap.size, 3, none⟩ = some (.int .i64 d) := by subst hw5; simpa using k3
          have d4 : ∀ i, w5.frozen? ⟨w.heap.size, i, none⟩ = false := by subst hw5; intro i; simpa using k4 i
          clear hw5 k0 k1 k2 k3 k4 hown3 hB3 hs3
          go_region
          go_wp2
          go_region
          go_upto_region 15 with fail
          generalize hw7 : World.drew _ = w7
          have hown7 : w7.ownsRow (w.heap.size + 1) 2 1 (.slice xa n xc) n ((zs.take n).map (Value.int .i64)) := by subst hw7; exact own_drew (own_set (own_drew (own_set hown5 (by dsimp only; omega))) (by dsimp only; omega))
          have hB7 : Below w.heap.size w w7 := by subst hw7; exact (by repeat' (first | (with_reducible exact Below.refl _ _) | (with_reducible assumption) | (with_reducible refine below_drewN ?_ _) | (with_reducible refine Below.drew ?_) | (with_reducible refine Below.alloc ?_ ?_ _) | (with_reducible refine Below.setCell ?_ ?_ _) | (with_reducible refine Below.trans ?_ (Below.mono (by with_reducible assumption) ?_)) | go_size | (dsimp only; omega)))
          have hs7 : w.heap.size + 1 < w7.heap.size := by subst hw7; go_size
          have f0 : w7.cell? ⟨w.heap.size, 0, none⟩ = some (.int .i64 (a)) := by subst hw7; go_simp
          have f1 : w7.cell? ⟨w.heap.size, 1, none⟩ = some (.int .i64 (b)) := by subst hw7; go_simp
          have f2 : w7.cell? ⟨w.heap.size, 2, none⟩ = some (.int .i64 (c - k * a)) := by subst hw7; go_simp
          have f3 : w7.cell? ⟨w.heap.size, 3, none⟩ = some (.int .i64 (d - k * b)) := by subst hw7; go_simp
          have f4 : ∀ i, w7.frozen? ⟨w.heap.size, i, none⟩ = false := by subst hw7; intro i; go_simp
          clear hw7 d0 d1 d2 d3 d4 hown5 hB5 hs5
          go_wp2_with (at_builtin; refine wpList_append_own _ rfl _ _ 27 rfl (w.heap.size + 1) 2 i0 (.int .i64 0) 1 8 under_i64s hi hz0 hz1 hz2 rfl (by decide) _ _ _ rfl (hown7.alloc _) ⟨w7.heap.size, 0, none⟩ 1 1 [.int .i64 k] rfl rfl (cell_one_new _ _ _) (fun x hx => by simp at hx; subst hx; rfl) (by unfold maxLen; omega) (by omega) (by simp; omega) ?_; intro v' w8 hown8 hgrow8 hnil8; obtain ⟨hB8, hs8, fc8, ff8⟩ := app_after hown7 hgrow8 hB7 (by omega) (by omega); have fc := fun o => fc8 w.heap.size o (by omega); have ff := fun o => ff8 w.heap.size o (by omega); clear fc8 ff8 hgrow8 hnil8)
          go_roundw
          case rel => exact ⟨_, _, _, _, n + 1, l, by go_num, HN.out, by rw [show ((n + 1) % 2 == 0) = true from by have := HPAR.out; simp; omega]; exact HC3.out, by simp at hn; omega, own_step1 HT.out, own_step2 HT.out hown8, by rw [fc]; exact f0, by rw [fc]; exact f1, by rw [fc]; exact f2, by rw [fc]; exact f3, (by intro i; rw [ff]; exact f4 i), hB8, by omega⟩
          case measure => (have e1 := lenOf_row hown8; have e2 := HLEN.out; simp at hn; omega)
        · have z1 : decide (0 < a) = true := by simp; omega
          have n1 : (a == 0) = false := by simpa using hzc
          by_cases hzd : b = 0
          · obtain rfl : k = x := by rw [HQ.out, if_neg hzc, if_pos hzd]
            refine wp_loop_rounds 3 ?_
            rw [rounds_succ]
            go_wp2
            go_quiet (fail)
            go_wp2
            rw [rounds_succ]
            go_wp2
            rw [rounds_succ]
            go_upto_region 13 with fail
            generalize hw5 : World.drewN _ _ = w5
            have hown5 : w5.ownsRow (w.heap.size + 1) 2 1 (.slice xa n xc) n ((zs.take n).map (Value.int .i64)) := by subst hw5; first | exact own_drewN hown3 | exact own_drewN (own_drewN hown3)
            have hB5 : Below w.heap.size w w5 := by subst hw5; exact (by repeat' (first | (with_reducible exact Below.refl _ _) | (with_reducible assumption) | (with_reducible refine below_drewN ?_ _) | (with_reducible refine Below.drew ?_) | (with_reducible refine Below.alloc ?_ ?_ _) | (with_reducible refine Below.setCell ?_ ?_ _) | (with_reducible refine Below.trans ?_ (Below.mono (by with_reducible assumption) ?_)) | go_size | (dsimp only; omega)))
            have hs5 : w.heap.size + 1 < w5.heap.size := by subst hw5; simpa using hs3
            have d0 : w5.cell? ⟨w.heap.size, 0, none⟩ = some (.int .i64 a) := by subst hw5; simpa using k0
            have d1 : w5.cell? ⟨w.heap.size, 1, none⟩ = some (.int .i64 b) := by subst hw5; simpa using k1
            have d2 : w5.cell? ⟨w.heap.size, 2, none⟩ = some (.int .i64 c) := by subst hw5; simpa using k2
            have d3 : w5.cell? ⟨w.heap.size, 3, none⟩ = some (.int .i64 d) := by subst hw5; simpa using k3
            have d4 : ∀ i, w5.frozen? ⟨w.heap.size, i, none⟩ = false := by subst hw5; intro i; simpa using k4 i
            clear hw5 k0 k1 k2 k3 k4 hown3 hB3 hs3
            go_region
            go_wp2
            go_region
            go_upto_region 15 with fail
            generalize hw7 : World.drew _ = w7
            have hown7 : w7.ownsRow (w.heap.size + 1) 2 1 (.slice xa n xc) n ((zs.take n).map (Value.int .i64)) := by subst hw7; exact own_drew (own_set (own_drew (own_set hown5 (by dsimp only; omega))) (by dsimp only; omega))
            have hB7 : Below w.heap.size w w7 := by subst hw7; exact (by repeat' (first | (with_reducible exact Below.refl _ _) | (with_reducible assumption) | (with_reducible refine below_drewN ?_ _) | (with_reducible refine Below.drew ?_) | (with_reducible refine Below.alloc ?_ ?_ _) | (with_reducible refine Below.setCell ?_ ?_ _) | (with_reducible refine Below.trans ?_ (Below.mono (by with_reducible assumption) ?_)) | go_size | (dsimp only; omega)))
            have hs7 : w.heap.size + 1 < w7.heap.size := by subst hw7; go_size
            have f0 : w7.cell? ⟨w.heap.size, 0, none⟩ = some (.int .i64 (a)) := by subst hw7; go_simp
            have f1 : w7.cell? ⟨w.heap.size, 1, none⟩ = some (.int .i64 (b)) := by subst hw7; go_simp
            have f2 : w7.cell? ⟨w.heap.size, 2, none⟩ = some (.int .i64 (c - k * a)) := by subst hw7; go_simp
            have f3 : w7.cell? ⟨w.heap.size, 3, none⟩ = some (.int .i64 (d - k * b)) := by subst hw7; go_simp
            have f4 : ∀ i, w7.frozen? ⟨w.heap.size, i, none⟩ = false := by subst hw7; intro i; go_simp
            clear hw7 d0 d1 d2 d3 d4 hown5 hB5 hs5
            go_wp2_with (at_builtin; refine wpList_append_own _ rfl _ _ 27 rfl (w.heap.size + 1) 2 i0 (.int .i64 0) 1 8 under_i64s hi hz0 hz1 hz2 rfl (by decide) _ _ _ rfl (hown7.alloc _) ⟨w7.heap.size, 0, none⟩ 1 1 [.int .i64 k] rfl rfl (cell_one_new _ _ _) (fun x hx => by simp at hx; subst hx; rfl) (by unfold maxLen; omega) (by omega) (by simp; omega) ?_; intro v' w8 hown8 hgrow8 hnil8; obtain ⟨hB8, hs8, fc8, ff8⟩ := app_after hown7 hgrow8 hB7 (by omega) (by omega); have fc := fun o => fc8 w.heap.size o (by omega); have ff := fun o => ff8 w.heap.size o (by omega); clear fc8 ff8 hgrow8 hnil8)
            go_roundw
            case rel => exact ⟨_, _, _, _, n + 1, l, by go_num, HN.out, by rw [show ((n + 1) % 2 == 0) = true from by have := HPAR.out; simp; omega]; exact HC3.out, by simp at hn; omega, own_step1 HT.out, own_step2 HT.out hown8, by rw [fc]; exact f0, by rw [fc]; exact f1, by rw [fc]; exact f2, by rw [fc]; exact f3, (by intro i; rw [ff]; exact f4 i), hB8, by omega⟩
            case measure => (have e1 := lenOf_row hown8; have e2 := HLEN.out; simp at hn; omega)
          · have z2 : decide (0 < b) = true := by simp; omega
            have n2 : (b == 0) = false := by simpa using hzd
            by_cases hxy : y < x
            · have hxy' : decide (y < x) = true := decide_eq_true hxy
              obtain rfl : k = y := by rw [HQ.out, if_neg hzc, if_neg hzd]; omega
              refine wp_loop_rounds 3 ?_
              rw [rounds_succ]
              go_wp2
              go_quiet (fail)
              go_wp2
              rw [rounds_succ]
              go_wp2
              go_quiet (fail)
              go_wp2
              rw [rounds_succ]
              go_upto_region 13 with fail
              generalize hw5 : World.drewN _ _ = w5
              have hown5 : w5.ownsRow (w.heap.size + 1) 2 1 (.slice xa n xc) n ((zs.take n).map (Value.int .i64)) := by subst hw5; first | exact own_drewN hown3 | exact own_drewN (own_drewN hown3)
              have hB5 : Below w.heap.size w w5 := by subst hw5; exact (by repeat' (first | (with_reducible exact Below.refl _ _) | (with_reducible assumption) | (with_reducible refine below_drewN ?_ _) | (with_reducible refine Below.drew ?_) | (with_reducible refine Below.alloc ?_ ?_ _) | (with_reducible refine Below.setCell ?_ ?_ _) | (with_reducible refine Below.trans ?_ (Below.mono (by with_reducible assumption) ?_)) | go_size | (dsimp only; omega)))
              have hs5 : w.heap.size + 1 < w5.heap.size := by subst hw5; simpa using hs3
              have d0 : w5.cell? ⟨w.heap.size, 0, none⟩ = some (.int .i64 a) := by subst hw5; simpa using k0
              have d1 : w5.cell? ⟨w.heap.size, 1, none⟩ = some (.int .i64 b) := by subst hw5; simpa using k1
              have d2 : w5.cell? ⟨w.heap.size, 2, none⟩ = some (.int .i64 c) := by subst hw5; simpa using k2
              have d3 : w5.cell? ⟨w.heap.size, 3, none⟩ = some (.int .i64 d) := by subst hw5; simpa using k3
              have d4 : ∀ i, w5.frozen? ⟨w.heap.size, i, none⟩ = false := by subst hw5; intro i; simpa using k4 i
              clear hw5 k0 k1 k2 k3 k4 hown3 hB3 hs3
              go_region
              go_wp2
              go_region
              go_upto_region 15 with fail
              generalize hw7 : World.drew _ = w7
              have hown7 : w7.ownsRow (w.heap.size + 1) 2 1 (.slice xa n xc) n ((zs.take n).map (Value.int .i64)) := by subst hw7; exact own_drew (own_set (own_drew (own_set hown5 (by dsimp only; omega))) (by dsimp only; omega))
              have hB7 : Below w.heap.size w w7 := by subst hw7; exact (by repeat' (first | (with_reducible exact Below.refl _ _) | (with_reducible assumption) | (with_reducible refine below_drewN ?_ _) | (with_reducible refine Below.drew ?_) | (with_reducible refine Below.alloc ?_ ?_ _) | (with_reducible refine Below.setCell ?_ ?_ _) | (with_reducible refine Below.trans ?_ (Below.mono (by with_reducible assumption) ?_)) | go_size | (dsimp only; omega)))
              have hs7 : w.heap.size + 1 < w7.heap.size := by subst hw7; go_size
              have f0 : w7.cell? ⟨w.heap.size, 0, none⟩ = some (.int .i64 (a)) := by subst hw7; go_simp
              have f1 : w7.cell? ⟨w.heap.size, 1, none⟩ = some (.int .i64 (b)) := by subst hw7; go_simp
              have f2 : w7.cell? ⟨w.heap.size, 2, none⟩ = some (.int .i64 (c - k * a)) := by subst hw7; go_simp
              have f3 : w7.cell? ⟨w.heap.size, 3, none⟩ = some (.int .i64 (d - k * b)) := by subst hw7; go_simp
              have f4 : ∀ i, w7.frozen? ⟨w.heap.size, i, none⟩ = false := by subst hw7; intro i; go_simp
              clear hw7 d0 d1 d2 d3 d4 hown5 hB5 hs5
              go_wp2_with (at_builtin; refine wpList_append_own _ rfl _ _ 27 rfl (w.heap.size + 1) 2 i0 (.int .i64 0) 1 8 under_i64s hi hz0 hz1 hz2 rfl (by decide) _ _ _ rfl (hown7.alloc _) ⟨w7.heap.size, 0, none⟩ 1 1 [.int .i64 k] rfl rfl (cell_one_new _ _ _) (fun x hx => by simp at hx; subst hx; rfl) (by unfold maxLen; omega) (by omega) (by simp; omega) ?_; intro v' w8 hown8 hgrow8 hnil8; obtain ⟨hB8, hs8, fc8, ff8⟩ := app_after hown7 hgrow8 hB7 (by omega) (by omega); have fc := fun o => fc8 w.heap.size o (by omega); have ff := fun o => ff8 w.heap.size o (by omega); clear fc8 ff8 hgrow8 hnil8)
              go_roundw
              case rel => exact ⟨_, _, _, _, n + 1, l, by go_num, HN.out, by rw [show ((n + 1) % 2 == 0) = true from by have := HPAR.out; simp; omega]; exact HC3.out, by simp at hn; omega, own_step1 HT.out, own_step2 HT.out hown8, by rw [fc]; exact f0, by rw [fc]; exact f1, by rw [fc]; exact f2, by rw [fc]; exact f3, (by intro i; rw [ff]; exact f4 i), hB8, by omega⟩
              case measure => (have e1 := lenOf_row hown8; have e2 := HLEN.out; simp at hn; omega)
            · have hxy' : decide (y < x) = false := decide_eq_false hxy
              obtain rfl : k = x := by rw [HQ.out, if_neg hzc, if_neg hzd]; omega
              refine wp_loop_rounds 3 ?_
              rw [rounds_succ]
              go_wp2
              go_quiet (fail)
              go_wp2
              rw [rounds_succ]
              go_wp2
              go_quiet (fail)
              go_wp2
              rw [rounds_succ]
              go_upto_region 13 with fail
              generalize hw5 : World.drewN _ _ = w5
              have hown5 : w5.ownsRow (w.heap.size + 1) 2 1 (.slice xa n xc) n ((zs.take n).map (Value.int .i64)) := by subst hw5; first | exact own_drewN hown3 | exact own_drewN (own_drewN hown3)
              have hB5 : Below w.heap.size w w5 := by subst hw5; exact (by repeat' (first | (with_reducible exact Below.refl _ _) | (with_reducible assumption) | (with_reducible refine below_drewN ?_ _) | (with_reducible refine Below.drew ?_) | (with_reducible refine Below.alloc ?_ ?_ _) | (with_reducible refine Below.setCell ?_ ?_ _) | (with_reducible refine Below.trans ?_ (Below.mono (by with_reducible assumption) ?_)) | go_size | (dsimp only; omega)))
              have hs5 : w.heap.size + 1 < w5.heap.size := by subst hw5; simpa using hs3
              have d0 : w5.cell? ⟨w.heap.size, 0, none⟩ = some (.int .i64 a) := by subst hw5; simpa using k0
              have d1 : w5.cell? ⟨w.heap.size, 1, none⟩ = some (.int .i64 b) := by subst hw5; simpa using k1
              have d2 : w5.cell? ⟨w.heap.size, 2, none⟩ = some (.int .i64 c) := by subst hw5; simpa using k2
              have d3 : w5.cell? ⟨w.heap.size, 3, none⟩ = some (.int .i64 d) := by subst hw5; simpa using k3
              have d4 : ∀ i, w5.frozen? ⟨w.heap.size, i, none⟩ = false := by subst hw5; intro i; simpa using k4 i
              clear hw5 k0 k1 k2 k3 k4 hown3 hB3 hs3
              go_region
              go_wp2
              go_region
              go_upto_region 15 with fail
              generalize hw7 : World.drew _ = w7
              have hown7 : w7.ownsRow (w.heap.size + 1) 2 1 (.slice xa n xc) n ((zs.take n).map (Value.int .i64)) := by subst hw7; exact own_drew (own_set (own_drew (own_set hown5 (by dsimp only; omega))) (by dsimp only; omega))
              have hB7 : Below w.heap.size w w7 := by subst hw7; exact (by repeat' (first | (with_reducible exact Below.refl _ _) | (with_reducible assumption) | (with_reducible refine below_drewN ?_ _) | (with_reducible refine Below.drew ?_) | (with_reducible refine Below.alloc ?_ ?_ _) | (with_reducible refine Below.setCell ?_ ?_ _) | (with_reducible refine Below.trans ?_ (Below.mono (by with_reducible assumption) ?_)) | go_size | (dsimp only; omega)))
              have hs7 : w.heap.size + 1 < w7.heap.size := by subst hw7; go_size
              have f0 : w7.cell? ⟨w.heap.size, 0, none⟩ = some (.int .i64 (a)) := by subst hw7; go_simp
              have f1 : w7.cell? ⟨w.heap.size, 1, none⟩ = some (.int .i64 (b)) := by subst hw7; go_simp
              have f2 : w7.cell? ⟨w.heap.size, 2, none⟩ = some (.int .i64 (c - k * a)) := by subst hw7; go_simp
              have f3 : w7.cell? ⟨w.heap.size, 3, none⟩ = some (.int .i64 (d - k * b)) := by subst hw7; go_simp
              have f4 : ∀ i, w7.frozen? ⟨w.heap.size, i, none⟩ = false := by subst hw7; intro i; go_simp
              clear hw7 d0 d1 d2 d3 d4 hown5 hB5 hs5
              go_wp2_with (at_builtin; refine wpList_append_own _ rfl _ _ 27 rfl (w.heap.size + 1) 2 i0 (.int .i64 0) 1 8 under_i64s hi hz0 hz1 hz2 rfl (by decide) _ _ _ rfl (hown7.alloc _) ⟨w7.heap.size, 0, none⟩ 1 1 [.int .i64 k] rfl rfl (cell_one_new _ _ _) (fun x hx => by simp at hx; subst hx; rfl) (by unfold maxLen; omega) (by omega) (by simp; omega) ?_; intro v' w8 hown8 hgrow8 hnil8; obtain ⟨hB8, hs8, fc8, ff8⟩ := app_after hown7 hgrow8 hB7 (by omega) (by omega); have fc := fun o => fc8 w.heap.size o (by omega); have ff := fun o => ff8 w.heap.size o (by omega); clear fc8 ff8 hgrow8 hnil8)
              go_roundw
              case rel => exact ⟨_, _, _, _, n + 1, l, by go_num, HN.out, by rw [show ((n + 1) % 2 == 0) = true from by have := HPAR.out; simp; omega]; exact HC3.out, by simp at hn; omega, own_step1 HT.out, own_step2 HT.out hown8, by rw [fc]; exact f0, by rw [fc]; exact f1, by rw [fc]; exact f2, by rw [fc]; exact f3, (by intro i; rw [ff]; exact f4 i), hB8, by omega⟩
              case measure => (have e1 := lenOf_row hown8; have e2 := HLEN.out; simp at hn; omega)
end Go.Proofs.Ytgpnfjpnbchglaa
