/- MatrixOfRuns of the reference; the law. -/
import Derived.Test.YtgpnfjpnbchglaaAV
namespace Go.Proofs.Ytgpnfjpnbchglaa
open Go.RowKit
set_option linter.unusedVariables false
set_option linter.unusedSimpArgs false
set_option maxRecDepth 100000 in
set_option maxHeartbeats 8000000 in
theorem sMatrixOfRuns_row (b o c : Nat) (zs : List Int) (w : World) (hb : b < w.heap.size) (hr : RowI w b o zs) (hm : zs.length ≤ 1000000000) (hn0 : zs ≠ []) :
    Calls Try.prog 26 #[.slice (some ⟨b, o, none⟩) zs.length c] w fun e w' => e = .returned (runsV zs) ∧ Below w.heap.size w w' := by
  have hpos : 0 < zs.length := List.length_pos_iff.mpr hn0
  have HR : Hid (∀ k, k < zs.length → w.cell? ⟨b, o + k, none⟩ = some (.int .i64 (zs.getD k 0))) := Lib.hid hr
  generalize hn : zs.length = n at *
  have HL := Lib.hid hn
  clear hn hr hn0
  by_cases hl : n ≤ 100
  case neg =>
    have hn100 : (100 < (n : Int)) := by omega
    have hno : runsV zs = .tuple #[.agg #[.int .i64 0, .int .i64 0, .int .i64 0, .int .i64 0], .int .i64 2] := runsV_no (fun h => by have := h.1; rw [HL.out] at this; omega)
    have HNO := Lib.hid hno
    clear hno
    go_enter Try.func26, Try.ntmps26
    go_wp2
    exact bodyPost_ret (v := .tuple #[.agg #[.int .i64 0, .int .i64 0, .int .i64 0, .int .i64 0], .int .i64 2]) (by simp only [results, Try.results26]; go_simp) rfl ⟨congrArg Ending.returned HNO.out.symm, (by repeat' (first | (with_reducible exact Below.refl _ _) | (with_reducible assumption) | (with_reducible refine below_drewN ?_ _) | (with_reducible refine Below.drew ?_) | (with_reducible refine Below.alloc ?_ ?_ _) | (with_reducible refine Below.setCell ?_ ?_ _) | (with_reducible refine Below.trans ?_ (Below.mono (by with_reducible assumption) ?_)) | go_size | (dsimp only; omega)))⟩
  case pos =>
    have hn100 : ¬ (100 < (n : Int)) := by omega
    have hnp : (0 : Int) < (n : Int) := by omega
    go_enter Try.func26, Try.ntmps26
    go_wp2
    go_loopw [4] (fun i wr => ∃ k : Nat, k ≤ n ∧ i = .int .i64 k ∧ Hid (∀ i, i < k → okR zs i) ∧ wr.cell? ⟨w.heap.size, 0, none⟩ = some (.int .i64 0) ∧ wr.cell? ⟨w.heap.size, 1, none⟩ = some (.int .i64 0) ∧ wr.cell? ⟨w.heap.size, 2, none⟩ = some (.int .i64 0) ∧ wr.cell? ⟨w.heap.size, 3, none⟩ = some (.int .i64 0) ∧ (∀ i, wr.frozen? ⟨w.heap.size, i, none⟩ = false) ∧ Below w.heap.size w wr ∧ w.heap.size < wr.heap.size) (fun i wr => n - (intOf i).toNat)
    case atStart => exact ⟨0, Nat.zero_le _, rfl, Lib.hid (fun i h => by omega), by go_cell, by go_cell, by go_cell, by go_cell, (by intro i; first | (simp; done) | (go_simp; done)), (by repeat' (first | (with_reducible exact Below.refl _ _) | (with_reducible assumption) | (with_reducible refine below_drewN ?_ _) | (with_reducible refine Below.drew ?_) | (with_reducible refine Below.alloc ?_ ?_ _) | (with_reducible refine Below.setCell ?_ ?_ _) | (with_reducible refine Below.trans ?_ (Below.mono (by with_reducible assumption) ?_)) | go_size | (dsimp only; omega))), by simp⟩
    case round =>
      obtain ⟨k, hk, rfl, HG, d0, d1, d2, d3, fw, hB, hw⟩ := hrel
      by_cases hlt : k < n
      · have hltI : (k : Int) < (n : Int) := by omega
        have q1 : wr.cell? ⟨b, o + k, none⟩ = some (.int .i64 (zs.getD k 0)) := by
          rw [hB.cell (p := ⟨b, o + k, none⟩) hb]; exact HR.out k hlt
        have hbad : ¬ okR zs k → runsV zs = .tuple #[.agg #[.int .i64 0, .int .i64 0, .int .i64 0, .int .i64 0], .int .i64 2] := fun h => runsV_no (fun h' => h (h'.2 k (by rw [HL.out]; exact hlt)))
        have hgood : okR zs k → ∀ i, i < k + 1 → okR zs i := by
          intro h i hi
          by_cases e : i = k
          · subst e; exact h
          · exact HG.out i (by omega)
        cases hin : (decide (0 ≤ zs.getD k 0) && decide (zs.getD k 0 ≤ 1000000000))
        · have HNO := Lib.hid (hbad (fun h => by have := h.1; simp only [Bool.and_eq_false_iff, decide_eq_false_iff_not] at hin; omega))
          have HIN := Lib.hid hin
          clear hbad hgood hin
          generalize zs.getD k 0 = z at *
          go_wp2_with fail
          refine (l01In_c _ _ _ _).mono ?_
          rintro e w' ⟨rfl, rfl⟩
          rw [HIN.out]
          go_wp2
          exact bodyPost_ret (v := .tuple #[.agg #[.int .i64 0, .int .i64 0, .int .i64 0, .int .i64 0], .int .i64 2]) (by simp only [results, Try.results26]; go_simp) rfl ⟨congrArg Ending.returned HNO.out.symm, (by repeat' (first | (with_reducible exact Below.refl _ _) | (with_reducible assumption) | (with_reducible refine below_drewN ?_ _) | (with_reducible refine Below.drew ?_) | (with_reducible refine Below.alloc ?_ ?_ _) | (with_reducible refine Below.setCell ?_ ?_ _) | (with_reducible refine Below.trans ?_ (Below.mono (by with_reducible assumption) ?_)) | go_size | (dsimp only; omega)))⟩
        · have hin' : 0 ≤ zs.getD k 0 ∧ zs.getD k 0 ≤ 1000000000 := by simpa using hin
          by_cases hz : zs.getD k 0 = 0
          · by_cases hk0 : k = 0
            · subst hk0
              by_cases hn1 : n = 1
              · have HNO := Lib.hid (hbad (fun h => (h.2 hz).2 (by rw [HL.out]; exact hn1)))
                rw [hz, Nat.add_zero] at q1
                have hc2 : ((n : Int) == 1) = true := by simp [hn1]
                have hc3 : (n : Int) = 1 := by omega
                clear hbad hgood hin hin' hz hn1
                go_wp2_with fail
                refine (l01In_c _ _ _ _).mono ?_
                rintro e w' ⟨rfl, rfl⟩
                go_wp2
                exact bodyPost_ret (v := .tuple #[.agg #[.int .i64 0, .int .i64 0, .int .i64 0, .int .i64 0], .int .i64 2]) (by simp only [results, Try.results26]; go_simp) rfl ⟨congrArg Ending.returned HNO.out.symm, (by repeat' (first | (with_reducible exact Below.refl _ _) | (with_reducible assumption) | (with_reducible refine below_drewN ?_ _) | (with_reducible refine Below.drew ?_) | (with_reducible refine Below.alloc ?_ ?_ _) | (with_reducible refine Below.setCell ?_ ?_ _) | (with_reducible refine Below.trans ?_ (Below.mono (by with_reducible assumption) ?_)) | go_size | (dsimp only; omega)))⟩
              · have HG' := Lib.hid (hgood ⟨hin', fun _ => ⟨rfl, by rw [HL.out]; exact hn1⟩⟩)
                rw [hz, Nat.add_zero] at q1
                have hc2 : ((n : Int) == 1) = false := by simp; omega
                have hc3 : ¬ (n : Int) = 1 := by omega
                clear hbad hgood hin hin' hz hn1
                go_wp2_with fail
                refine (l01In_c _ _ _ _).mono ?_
                rintro e w' ⟨rfl, rfl⟩
                go_wp2
                go_roundw
                case rel => exact ⟨1, by omega, by go_num, HG', by go_simp, by go_simp, by go_simp, by go_simp, (by intro i; go_simp), (by repeat' (first | (with_reducible exact Below.refl _ _) | (with_reducible assumption) | (with_reducible refine below_drewN ?_ _) | (with_reducible refine Below.drew ?_) | (with_reducible refine Below.alloc ?_ ?_ _) | (with_reducible refine Below.setCell ?_ ?_ _) | (with_reducible refine Below.trans ?_ (Below.mono (by with_reducible assumption) ?_)) | go_size | (dsimp only; omega))), by go_size⟩
                case measure => simp [intOf]; omega
            · have HNO := Lib.hid (hbad (fun h => hk0 (h.2 hz).1))
              rw [hz] at q1
              have hk1 : (0 : Int) < (k : Int) := by omega
              clear hbad hgood hin hin' hz hk0
              go_wp2_with fail
              refine (l01In_c _ _ _ _).mono ?_
              rintro e w' ⟨rfl, rfl⟩
              go_wp2
              exact bodyPost_ret (v := .tuple #[.agg #[.int .i64 0, .int .i64 0, .int .i64 0, .int .i64 0], .int .i64 2]) (by simp only [results, Try.results26]; go_simp) rfl ⟨congrArg Ending.returned HNO.out.symm, (by repeat' (first | (with_reducible exact Below.refl _ _) | (with_reducible assumption) | (with_reducible refine below_drewN ?_ _) | (with_reducible refine Below.drew ?_) | (with_reducible refine Below.alloc ?_ ?_ _) | (with_reducible refine Below.setCell ?_ ?_ _) | (with_reducible refine Below.trans ?_ (Below.mono (by with_reducible assumption) ?_)) | go_size | (dsimp only; omega)))⟩
          · have HG' := Lib.hid (hgood ⟨hin', fun e => absurd e hz⟩)
            have HIN := Lib.hid hin
            clear hbad hgood hin hin'
            generalize zs.getD k 0 = z at *
            have hz1 : (z == 0) = false := by simpa using hz
            go_wp2_with fail
            refine (l01In_c _ _ _ _).mono ?_
            rintro e w' ⟨rfl, rfl⟩
            rw [HIN.out]
            go_wp2
            go_roundw
            case rel => exact ⟨k + 1, by omega, by go_num, HG', by go_simp, by go_simp, by go_simp, by go_simp, (by intro i; go_simp), (by repeat' (first | (with_reducible exact Below.refl _ _) | (with_reducible assumption) | (with_reducible refine below_drewN ?_ _) | (with_reducible refine Below.drew ?_) | (with_reducible refine Below.alloc ?_ ?_ _) | (with_reducible refine Below.setCell ?_ ?_ _) | (with_reducible refine Below.trans ?_ (Below.mono (by with_reducible assumption) ?_)) | go_size | (dsimp only; omega))), by go_size⟩
            case measure => simp [intOf]; omega
      · have hOK : OkR zs := ⟨by rw [HL.out]; exact hl, fun i hi => HG.out i (by rw [HL.out] at hi; omega)⟩
        have HV := Lib.hid (runsV_yes hOK)
        have HOK := Lib.hid hOK
        clear hOK
        go_wp2_with fail
        refine (l02Unit_c' _).mono ?_
        rintro e w2 ⟨rfl, b2⟩
        have zzb2 := b2.size; (try simp at zzb2); have zb2_0 : w.heap.size < w2.heap.size := (by omega); have kcb2_0 : ∀ o, w2.cell? ⟨w.heap.size, o, none⟩ = _ := fun o => b2.cell (p := ⟨w.heap.size, o, none⟩) (by go_size); have kfb2_0 : ∀ o, w2.frozen? ⟨w.heap.size, o, none⟩ = _ := fun o => b2.frozen (p := ⟨w.heap.size, o, none⟩) (by go_size); clear zzb2
        have hB2 : Below w.heap.size w w2 := (by repeat' (first | (with_reducible exact Below.refl _ _) | (with_reducible assumption) | (with_reducible refine below_drewN ?_ _) | (with_reducible refine Below.drew ?_) | (with_reducible refine Below.alloc ?_ ?_ _) | (with_reducible refine Below.setCell ?_ ?_ _) | (with_reducible refine Below.trans ?_ (Below.mono (by with_reducible assumption) ?_)) | go_size | (dsimp only; omega)))
        go_wp2
        obtain ⟨wo, rfl⟩ : ∃ wo : World, wo = wr := ⟨_, rfl⟩
        go_loopw [6, 7] (fun f i wr => ∃ (k : Nat) (bb : Bool) (p q r t : Int), k ≤ n ∧ i = .int .i64 k ∧ f = .bool bb ∧ Hid (At bb ⟨p, q, r, t⟩ (msR zs) k) ∧
          wr.cell? ⟨w2.heap.size, 0, none⟩ = some (.int .i64 p) ∧ wr.cell? ⟨w2.heap.size, 1, none⟩ = some (.int .i64 q) ∧ wr.cell? ⟨w2.heap.size, 2, none⟩ = some (.int .i64 r) ∧ wr.cell? ⟨w2.heap.size, 3, none⟩ = some (.int .i64 t) ∧ (∀ i, wr.frozen? ⟨w2.heap.size, i, none⟩ = false) ∧
          wr.cell? ⟨w.heap.size, 0, none⟩ = some (.int .i64 0) ∧ wr.cell? ⟨w.heap.size, 1, none⟩ = some (.int .i64 0) ∧ wr.cell? ⟨w.heap.size, 2, none⟩ = some (.int .i64 0) ∧ wr.cell? ⟨w.heap.size, 3, none⟩ = some (.int .i64 0) ∧ (∀ i, wr.frozen? ⟨w.heap.size, i, none⟩ = false) ∧ Below w.heap.size w wr ∧ w.heap.size < wr.heap.size ∧ w2.heap.size < wr.heap.size) (fun f i wr => n - (intOf i).toNat)
        case atStart => exact ⟨0, true, 1, 0, 0, 1, Nat.zero_le _, rfl, rfl, Lib.hid (by unfold At; rw [if_pos rfl]; exact ⟨by decide, rfl⟩), by go_cell, by go_cell, by go_cell, by go_cell, (by intro i; first | (simp; done) | (go_simp; done)), by go_simp, by go_simp, by go_simp, by go_simp, (by intro i; go_simp), (by repeat' (first | (with_reducible exact Below.refl _ _) | (with_reducible assumption) | (with_reducible refine below_drewN ?_ _) | (with_reducible refine Below.drew ?_) | (with_reducible refine Below.alloc ?_ ?_ _) | (with_reducible refine Below.setCell ?_ ?_ _) | (with_reducible refine Below.trans ?_ (Below.mono (by with_reducible assumption) ?_)) | go_size | (dsimp only; omega))), by go_size, by go_size⟩
        case round =>
          obtain ⟨j, bb, p, q, r, t, hj, rfl, rfl, HA, c0, c1, c2, c3, fg, d0', d1', d2', d3', fw', hB', hw', hg'⟩ := hrel
          clear d0 d1 d2 d3 fw hB hw kcb2_0 kfb2_0 b2 hB2
          have hne : ¬ w.heap.size = w2.heap.size := by omega
          have hne' : ¬ w2.heap.size = w.heap.size := by omega
          cases bb
          · have hnone : runsV zs = .tuple #[.agg #[.int .i64 0, .int .i64 0, .int .i64 0, .int .i64 0], .int .i64 3] := by
              have := HA.out
              simp only [At] at this
              rw [HV.out, this]; rfl
            have HN := Lib.hid hnone
            clear hnone
            by_cases hlt2 : j < n
            · go_wp2
              exact bodyPost_ret (v := .tuple #[.agg #[.int .i64 0, .int .i64 0, .int .i64 0, .int .i64 0], .int .i64 3]) (by simp only [results, Try.results26]; go_simp) rfl ⟨congrArg Ending.returned HN.out.symm, (by repeat' (first | (with_reducible exact Below.refl _ _) | (with_reducible assumption) | (with_reducible refine below_drewN ?_ _) | (with_reducible refine Below.drew ?_) | (with_reducible refine Below.alloc ?_ ?_ _) | (with_reducible refine Below.setCell ?_ ?_ _) | (with_reducible refine Below.trans ?_ (Below.mono (by with_reducible assumption) ?_)) | go_size | (dsimp only; omega)))⟩
            · go_wp2
              exact bodyPost_ret (v := .tuple #[.agg #[.int .i64 0, .int .i64 0, .int .i64 0, .int .i64 0], .int .i64 3]) (by simp only [results, Try.results26]; go_simp) rfl ⟨congrArg Ending.returned HN.out.symm, (by repeat' (first | (with_reducible exact Below.refl _ _) | (with_reducible assumption) | (with_reducible refine below_drewN ?_ _) | (with_reducible refine Below.drew ?_) | (with_reducible refine Below.alloc ?_ ?_ _) | (with_reducible refine Below.setCell ?_ ?_ _) | (with_reducible refine Below.trans ?_ (Below.mono (by with_reducible assumption) ?_)) | go_size | (dsimp only; omega)))⟩
          · by_cases hlt2 : j < n
            · have hlt3 : (j : Int) < (n : Int) := by omega
              have hjl : j < zs.length := by rw [HL.out]; exact hlt2
              have q1 : wr.cell? ⟨b, o + j, none⟩ = some (.int .i64 (zs.getD j 0)) := by
                rw [hB'.cell (p := ⟨b, o + j, none⟩) hb]; exact HR.out j hlt2
              have hA := HA.out
              simp only [At] at hA
              have HX2 := Lib.hid (msR_at zs j hjl)
              have HM := Lib.hid hA.1
              have HP := Lib.hid hA.2
              have HE := Lib.hid (mR_ent j _ (HOK.out.2 j hjl).1)
              clear hA hjl
              generalize zs.getD j 0 = z at *
              have hbl : b < wr.heap.size := by omega
              have hbn : ¬ b = w2.heap.size := by omega
              have hbn' : ¬ b = w.heap.size := by omega
              by_cases hpar : j % 2 = 0
              · have e1 : (j : Int) % 2 = 0 := by omega
                have hm : mR j z = ⟨1, z, 0, 1⟩ := by unfold mR; rw [if_pos hpar]
                rw [hm] at HX2 HE
                clear hm hpar
                cases he : M4.ent (M4.mul ⟨p, q, r, t⟩ ⟨1, z, 0, 1⟩)
                · have hno := prodL_no HX2.out HP.out he
                  have HN := Lib.hid hno
                  have HE2 := Lib.hid he
                  clear hno he
                  go_wp2_with fail
                  refine (l01Times_no ⟨p, q, r, t⟩ ⟨1, z, 0, 1⟩ _ HM.out HE.out HE2.out).mono ?_
                  rintro e w4 ⟨rfl, b4⟩
                  have zzb4 := b4.size; (try simp at zzb4); have zb4_w0 : w.heap.size < w4.heap.size := (by omega); have kcb4_w0 : ∀ o, w4.cell? ⟨w.heap.size, o, none⟩ = _ := fun o => b4.cell (p := ⟨w.heap.size, o, none⟩) (by go_size); have kfb4_w0 : ∀ o, w4.frozen? ⟨w.heap.size, o, none⟩ = _ := fun o => b4.frozen (p := ⟨w.heap.size, o, none⟩) (by go_size); have zb4_w20 : w2.heap.size < w4.heap.size := (by omega); have kcb4_w20 : ∀ o, w4.cell? ⟨w2.heap.size, o, none⟩ = _ := fun o => b4.cell (p := ⟨w2.heap.size, o, none⟩) (by go_size); have kfb4_w20 : ∀ o, w4.frozen? ⟨w2.heap.size, o, none⟩ = _ := fun o => b4.frozen (p := ⟨w2.heap.size, o, none⟩) (by go_size); clear zzb4
                  go_wp2
                  go_roundw
                  case rel => exact ⟨j + 1, false, 0, 0, 0, 0, by omega, by go_num, rfl, Lib.hid (by unfold At; rw [if_neg (by simp)]; exact HN.out), by go_simp, by go_simp, by go_simp, by go_simp, (by intro i; go_simp), by go_simp, by go_simp, by go_simp, by go_simp, (by intro i; go_simp), (by repeat' (first | (with_reducible exact Below.refl _ _) | (with_reducible assumption) | (with_reducible refine below_drewN ?_ _) | (with_reducible refine Below.drew ?_) | (with_reducible refine Below.alloc ?_ ?_ _) | (with_reducible refine Below.setCell ?_ ?_ _) | (with_reducible refine Below.trans ?_ (Below.mono (by with_reducible assumption) ?_)) | go_size | (dsimp only; omega))), by go_size, by go_size⟩
                  case measure => simp [intOf]; omega
                · have hgo := prodL_go HX2.out HP.out he
                  have HN := Lib.hid hgo
                  have HE2 := Lib.hid he
                  clear hgo he
                  go_wp2_with fail
                  refine (l01Times_yes ⟨p, q, r, t⟩ ⟨1, z, 0, 1⟩ _ HM.out HE.out HE2.out).mono ?_
                  rintro e w4 ⟨rfl, b4⟩
                  have zzb4 := b4.size; (try simp at zzb4); have zb4_w0 : w.heap.size < w4.heap.size := (by omega); have kcb4_w0 : ∀ o, w4.cell? ⟨w.heap.size, o, none⟩ = _ := fun o => b4.cell (p := ⟨w.heap.size, o, none⟩) (by go_size); have kfb4_w0 : ∀ o, w4.frozen? ⟨w.heap.size, o, none⟩ = _ := fun o => b4.frozen (p := ⟨w.heap.size, o, none⟩) (by go_size); have zb4_w20 : w2.heap.size < w4.heap.size := (by omega); have kcb4_w20 : ∀ o, w4.cell? ⟨w2.heap.size, o, none⟩ = _ := fun o => b4.cell (p := ⟨w2.heap.size, o, none⟩) (by go_size); have kfb4_w20 : ∀ o, w4.frozen? ⟨w2.heap.size, o, none⟩ = _ := fun o => b4.frozen (p := ⟨w2.heap.size, o, none⟩) (by go_size); clear zzb4
                  generalize hmm : M4.mul ⟨p, q, r, t⟩ ⟨1, z, 0, 1⟩ = mm at *
                  have hMV : mm.v = .agg #[.int .i64 mm.a, .int .i64 mm.b, .int .i64 mm.c, .int .i64 mm.d] := rfl
                  rw [hMV]
                  clear hmm hMV
                  go_wp2
                  go_roundw
                  case rel => exact ⟨j + 1, true, mm.a, mm.b, mm.c, mm.d, by omega, by go_num, rfl, Lib.hid (by unfold At; rw [if_pos rfl]; exact ⟨HE2.out, HN.out⟩), by go_simp, by go_simp, by go_simp, by go_simp, (by intro i; go_simp), by go_simp, by go_simp, by go_simp, by go_simp, (by intro i; go_simp), (by repeat' (first | (with_reducible exact Below.refl _ _) | (with_reducible assumption) | (with_reducible refine below_drewN ?_ _) | (with_reducible refine Below.drew ?_) | (with_reducible refine Below.alloc ?_ ?_ _) | (with_reducible refine Below.setCell ?_ ?_ _) | (with_reducible refine Below.trans ?_ (Below.mono (by with_reducible assumption) ?_)) | go_size | (dsimp only; omega))), by go_size, by go_size⟩
                  case measure => simp [intOf]; omega
              · have e1 : (j : Int) % 2 = 1 := by omega
                have hm : mR j z = ⟨1, 0, z, 1⟩ := by unfold mR; rw [if_neg hpar]
                rw [hm] at HX2 HE
                clear hm hpar
                cases he : M4.ent (M4.mul ⟨p, q, r, t⟩ ⟨1, 0, z, 1⟩)
                · have hno := prodL_no HX2.out HP.out he
                  have HN := Lib.hid hno
                  have HE2 := Lib.hid he
                  clear hno he
                  go_wp2_with fail
                  refine (l01Times_no ⟨p, q, r, t⟩ ⟨1, 0, z, 1⟩ _ HM.out HE.out HE2.out).mono ?_
                  rintro e w4 ⟨rfl, b4⟩
                  have zzb4 := b4.size; (try simp at zzb4); have zb4_w0 : w.heap.size < w4.heap.size := (by omega); have kcb4_w0 : ∀ o, w4.cell? ⟨w.heap.size, o, none⟩ = _ := fun o => b4.cell (p := ⟨w.heap.size, o, none⟩) (by go_size); have kfb4_w0 : ∀ o, w4.frozen? ⟨w.heap.size, o, none⟩ = _ := fun o => b4.frozen (p := ⟨w.heap.size, o, none⟩) (by go_size); have zb4_w20 : w2.heap.size < w4.heap.size := (by omega); have kcb4_w20 : ∀ o, w4.cell? ⟨w2.heap.size, o, none⟩ = _ := fun o => b4.cell (p := ⟨w2.heap.size, o, none⟩) (by go_size); have kfb4_w20 : ∀ o, w4.frozen? ⟨w2.heap.size, o, none⟩ = _ := fun o => b4.frozen (p := ⟨w2.heap.size, o, none⟩) (by go_size); clear zzb4
                  go_wp2
                  go_roundw
                  case rel => exact ⟨j + 1, false, 0, 0, 0, 0, by omega, by go_num, rfl, Lib.hid (by unfold At; rw [if_neg (by simp)]; exact HN.out), by go_simp, by go_simp, by go_simp, by go_simp, (by intro i; go_simp), by go_simp, by go_simp, by go_simp, by go_simp, (by intro i; go_simp), (by repeat' (first | (with_reducible exact Below.refl _ _) | (with_reducible assumption) | (with_reducible refine below_drewN ?_ _) | (with_reducible refine Below.drew ?_) | (with_reducible refine Below.alloc ?_ ?_ _) | (with_reducible refine Below.setCell ?_ ?_ _) | (with_reducible refine Below.trans ?_ (Below.mono (by with_reducible assumption) ?_)) | go_size | (dsimp only; omega))), by go_size, by go_size⟩
                  case measure => simp [intOf]; omega
                · have hgo := prodL_go HX2.out HP.out he
                  have HN := Lib.hid hgo
                  have HE2 := Lib.hid he
                  clear hgo he
                  go_wp2_with fail
                  refine (l01Times_yes ⟨p, q, r, t⟩ ⟨1, 0, z, 1⟩ _ HM.out HE.out HE2.out).mono ?_
                  rintro e w4 ⟨rfl, b4⟩
                  have zzb4 := b4.size; (try simp at zzb4); have zb4_w0 : w.heap.size < w4.heap.size := (by omega); have kcb4_w0 : ∀ o, w4.cell? ⟨w.heap.size, o, none⟩ = _ := fun o => b4.cell (p := ⟨w.heap.size, o, none⟩) (by go_size); have kfb4_w0 : ∀ o, w4.frozen? ⟨w.heap.size, o, none⟩ = _ := fun o => b4.frozen (p := ⟨w.heap.size, o, none⟩) (by go_size); have zb4_w20 : w2.heap.size < w4.heap.size := (by omega); have kcb4_w20 : ∀ o, w4.cell? ⟨w2.heap.size, o, none⟩ = _ := fun o => b4.cell (p := ⟨w2.heap.size, o, none⟩) (by go_size); have kfb4_w20 : ∀ o, w4.frozen? ⟨w2.heap.size, o, none⟩ = _ := fun o => b4.frozen (p := ⟨w2.heap.size, o, none⟩) (by go_size); clear zzb4
                  generalize hmm : M4.mul ⟨p, q, r, t⟩ ⟨1, 0, z, 1⟩ = mm at *
                  have hMV : mm.v = .agg #[.int .i64 mm.a, .int .i64 mm.b, .int .i64 mm.c, .int .i64 mm.d] := rfl
                  rw [hMV]
                  clear hmm hMV
                  go_wp2
                  go_roundw
                  case rel => exact ⟨j + 1, true, mm.a, mm.b, mm.c, mm.d, by omega, by go_num, rfl, Lib.hid (by unfold At; rw [if_pos rfl]; exact ⟨HE2.out, HN.out⟩), by go_simp, by go_simp, by go_simp, by go_simp, (by intro i; go_simp), by go_simp, by go_simp, by go_simp, by go_simp, (by intro i; go_simp), (by repeat' (first | (with_reducible exact Below.refl _ _) | (with_reducible assumption) | (with_reducible refine below_drewN ?_ _) | (with_reducible refine Below.drew ?_) | (with_reducible refine Below.alloc ?_ ?_ _) | (with_reducible refine Below.setCell ?_ ?_ _) | (with_reducible refine Below.trans ?_ (Below.mono (by with_reducible assumption) ?_)) | go_size | (dsimp only; omega))), by go_size, by go_size⟩
                  case measure => simp [intOf]; omega
            · have hend : runsV zs = .tuple #[.agg #[.int .i64 p, .int .i64 q, .int .i64 r, .int .i64 t], .int .i64 0] := by
                have hA := HA.out
                simp only [At] at hA
                rw [HV.out, prodL_end (by rw [msR_len, HL.out]; omega) hA.2]; rfl
              have HN := Lib.hid hend
              clear hend
              go_wp2
              exact bodyPost_ret (v := .tuple #[.agg #[.int .i64 p, .int .i64 q, .int .i64 r, .int .i64 t], .int .i64 0]) (by simp only [results, Try.results26]; go_simp) rfl ⟨congrArg Ending.returned HN.out.symm, (by repeat' (first | (with_reducible exact Below.refl _ _) | (with_reducible assumption) | (with_reducible refine below_drewN ?_ _) | (with_reducible refine Below.drew ?_) | (with_reducible refine Below.alloc ?_ ?_ _) | (with_reducible refine Below.setCell ?_ ?_ _) | (with_reducible refine Below.trans ?_ (Below.mono (by with_reducible assumption) ?_)) | go_size | (dsimp only; omega)))⟩
theorem runsV_nil : runsV [] = .tuple #[.agg #[.int .i64 1, .int .i64 0, .int .i64 0, .int .i64 1], .int .i64 0] := by
  rw [runsV_yes ⟨by simp, fun i hi => by simp at hi⟩]; rfl
theorem MatrixOfRuns_nil (a : Option Addr) (c : Nat) (w : World) :
    Calls Try.prog 25 #[.slice a 0 c] w fun e w' => e = .returned (runsV []) ∧ Below w.heap.size w w' := by
  rw [runsV_nil]
  go_enter Try.func25, Try.ntmps25
  go_wp2
  refine wp_loop_rounds 1 ?_
  rw [rounds_succ]
  go_wp2_with fail
  refine (product_c (w.heap.size + 1) 0 0 0 [] _ rfl (by omega) (by simp) (by intro k m h; simp at h) (by simp)).mono ?_
  rintro e w2 ⟨rfl, b2⟩
  rw [show prodV (prodL M4.I []) = .tuple #[.agg #[.int .i64 1, .int .i64 0, .int .i64 0, .int .i64 1], .int .i64 0] from rfl]
  have zzb2 := b2.size; (try simp at zzb2); have zb2_0 : w.heap.size < w2.heap.size := (by omega); have kcb2_0 : ∀ o, w2.cell? ⟨w.heap.size, o, none⟩ = _ := fun o => b2.cell (p := ⟨w.heap.size, o, none⟩) (by go_size); have kfb2_0 : ∀ o, w2.frozen? ⟨w.heap.size, o, none⟩ = _ := fun o => b2.frozen (p := ⟨w.heap.size, o, none⟩) (by go_size); clear zzb2
  go_wp2
  exact bodyPost_ret (v := .tuple #[.agg #[.int .i64 1, .int .i64 0, .int .i64 0, .int .i64 1], .int .i64 0]) (by simp only [results, Try.results25]; go_simp) rfl ⟨rfl, (by repeat' (first | (with_reducible exact Below.refl _ _) | (with_reducible assumption) | (with_reducible refine below_drewN ?_ _) | (with_reducible refine Below.drew ?_) | (with_reducible refine Below.alloc ?_ ?_ _) | (with_reducible refine Below.setCell ?_ ?_ _) | (with_reducible refine Below.trans ?_ (Below.mono (by with_reducible assumption) ?_)) | go_size | (dsimp only; omega)))⟩
theorem sMatrixOfRuns_nil (a : Option Addr) (c : Nat) (w : World) :
    Calls Try.prog 26 #[.slice a 0 c] w fun e w' => e = .returned (runsV []) ∧ Below w.heap.size w w' := by
  rw [runsV_nil]
  go_enter Try.func26, Try.ntmps26
  go_wp2
  refine wp_loop_rounds 1 ?_
  rw [rounds_succ]
  go_wp2_with fail
  refine (l02Unit_c' _).mono ?_
  rintro e w2 ⟨rfl, b2⟩
  have zzb2 := b2.size; (try simp at zzb2); have zb2_0 : w.heap.size < w2.heap.size := (by omega); have kcb2_0 : ∀ o, w2.cell? ⟨w.heap.size, o, none⟩ = _ := fun o => b2.cell (p := ⟨w.heap.size, o, none⟩) (by go_size); have kfb2_0 : ∀ o, w2.frozen? ⟨w.heap.size, o, none⟩ = _ := fun o => b2.frozen (p := ⟨w.heap.size, o, none⟩) (by go_size); clear zzb2
  go_wp2
  refine wp_loop_rounds 1 ?_
  rw [rounds_succ]
  go_wp2
  exact bodyPost_ret (v := .tuple #[.agg #[.int .i64 1, .int .i64 0, .int .i64 0, .int .i64 1], .int .i64 0]) (by simp only [results, Try.results26]; go_simp) rfl ⟨rfl, (by repeat' (first | (with_reducible exact Below.refl _ _) | (with_reducible assumption) | (with_reducible refine below_drewN ?_ _) | (with_reducible refine Below.drew ?_) | (with_reducible refine Below.alloc ?_ ?_ _) | (with_reducible refine Below.setCell ?_ ?_ _) | (with_reducible refine Below.trans ?_ (Below.mono (by with_reducible assumption) ?_)) | go_size | (dsimp only; omega)))⟩
theorem MatrixOfRuns_c (v : Value) (zs : List Int) (w : World) (h : InI w v zs) (hm : zs.length ≤ 1000000000) :
    Calls Try.prog 25 #[v] w fun e w' => e = .returned (runsV zs) ∧ Below w.heap.size w w' := by
  rcases h with ⟨rfl, a, c, rfl⟩ | ⟨b, o, c, rfl, hb, hr⟩
  · exact MatrixOfRuns_nil a c w
  · by_cases h0 : zs = []
    · subst h0; exact MatrixOfRuns_nil _ c w
    · exact MatrixOfRuns_row b o c zs w hb hr hm h0
theorem sMatrixOfRuns_c (v : Value) (zs : List Int) (w : World) (h : InI w v zs) (hm : zs.length ≤ 1000000000) :
    Calls Try.prog 26 #[v] w fun e w' => e = .returned (runsV zs) ∧ Below w.heap.size w w' := by
  rcases h with ⟨rfl, a, c, rfl⟩ | ⟨b, o, c, rfl, hb, hr⟩
  · exact sMatrixOfRuns_nil a c w
  · by_cases h0 : zs = []
    · subst h0; exact sMatrixOfRuns_nil _ c w
    · exact sMatrixOfRuns_row b o c zs w hb hr hm h0
end Go.Proofs.Ytgpnfjpnbchglaa
