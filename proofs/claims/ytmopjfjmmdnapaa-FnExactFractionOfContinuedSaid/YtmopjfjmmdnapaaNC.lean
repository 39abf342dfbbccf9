/- FractionOfContinued: the reference's walk; the law. -/
import Derived.Test.YtmopjfjmmdnapaaNB
namespace Go.Proofs.Ytmopjfjmmdnapaa
open Go.RowKit
set_option linter.unusedVariables false
set_option linter.unusedSimpArgs false
set_option maxRecDepth 100000 in
set_option maxHeartbeats 4000000 in
theorem sFractionOfContinued_row (b n : Nat) (zs : List Int) (w : World) (hb : b < w.heap.size) (HR : Hid (RowI w b 0 zs)) (HL : Hid (zs.length = n)) (h1 : 1 ≤ n) (hm : n ≤ 1000000000) :
    Calls Try.prog 21 #[.slice (some ⟨b, 0, none⟩) n n] w fun e w' => e = .returned (contV zs) ∧ Below w.heap.size w w' := by
  have e1 : ¬ ((n : Int) < 1) := by omega
  by_cases h60 : n ≤ 60
  case neg =>
    have e2 : 60 < (n : Int) := by omega
    rw [contV_no (fun h => h60 (by have := h.2.1; rw [HL.out] at this; exact this))]
    go_enter Try.func21, Try.ntmps21
    go_wp2
    exact bodyPost_ret (v := .tuple #[.agg #[.int .i64 0, .int .i64 0], .int .i64 2]) (by simp only [results, Try.results21]; go_simp) rfl ⟨rfl, (by repeat' (first | (with_reducible exact Below.refl _ _) | (with_reducible assumption) | (with_reducible refine below_drewN ?_ _) | (with_reducible refine Below.drew ?_) | (with_reducible refine Below.alloc ?_ ?_ _) | (with_reducible refine Below.setCell ?_ ?_ _) | (with_reducible refine Below.trans ?_ (Below.mono (by with_reducible assumption) ?_)) | go_size | (dsimp only; omega)))⟩
  case pos =>
    have e2 : ¬ (60 < (n : Int)) := by omega
    have hq0 : w.cell? ⟨b, 0, none⟩ = some (.int .i64 (zs.getD 0 0)) := HR.out 0 (by rw [HL.out]; omega)
    have hz0 : 0 < zs.length := by rw [HL.out]; omega
    cases he0 : ent (zs.getD 0 0)
    case false =>
      rw [contV_no (fun h => by have := OkC_ent h 0 hz0; rw [he0] at this; simp at this)]
      generalize zs.getD 0 0 = z at *
      have HE := Lib.hid he0
      clear he0
      go_enter Try.func21, Try.ntmps21
      go_wp2_with fail
      refine (l01Entry_c _ _).mono ?_
      rintro e w' ⟨rfl, rfl⟩
      rw [HE.out]
      go_wp2
      exact bodyPost_ret (v := .tuple #[.agg #[.int .i64 0, .int .i64 0], .int .i64 2]) (by simp only [results, Try.results21]; go_simp) rfl ⟨rfl, (by repeat' (first | (with_reducible exact Below.refl _ _) | (with_reducible assumption) | (with_reducible refine below_drewN ?_ _) | (with_reducible refine Below.drew ?_) | (with_reducible refine Below.alloc ?_ ?_ _) | (with_reducible refine Below.setCell ?_ ?_ _) | (with_reducible refine Below.trans ?_ (Below.mono (by with_reducible assumption) ?_)) | go_size | (dsimp only; omega)))⟩
    case true =>
      have HE0 := Lib.hid he0
      have HOK0 : Hid (∀ i, i < 1 → okC zs i) := by
        apply Lib.hid
        intro i h
        obtain rfl : i = 0 := by omega
        unfold okC
        rw [if_pos rfl]
        exact ent_iff.mp he0
      obtain ⟨z, hz⟩ : ∃ z, zs.getD 0 0 = z := ⟨_, rfl⟩
      rw [hz] at hq0 he0
      have HZ := Lib.hid hz
      have HE := Lib.hid he0
      obtain ⟨p, q, c, hv⟩ := contV_form zs
      rw [hv]
      have HV := Lib.hid hv
      clear hz he0 hv
      go_enter Try.func21, Try.ntmps21
      go_wp2_with fail
      refine (l01Entry_c _ _).mono ?_
      rintro e w' ⟨rfl, rfl⟩
      rw [HE.out]
      go_wp2
      go_loopw [4] (fun i wr => ∃ k : Nat, 1 ≤ k ∧ k ≤ n ∧ i = .int .i64 k ∧ Hid (∀ i, i < k → okC zs i) ∧ wr.cell? ⟨w.heap.size, 0, none⟩ = some (.int .i64 0) ∧ wr.cell? ⟨w.heap.size, 1, none⟩ = some (.int .i64 0) ∧ (∀ i, wr.frozen? ⟨w.heap.size, i, none⟩ = false) ∧ Below w.heap.size w wr ∧ w.heap.size < wr.heap.size) (fun i wr => n - (intOf i).toNat)
      case atStart => exact ⟨1, by omega, by omega, rfl, HOK0, by go_cell, by go_cell, (by intro i; first | (simp; done) | (go_simp; done)), (by repeat' (first | (with_reducible exact Below.refl _ _) | (with_reducible assumption) | (with_reducible refine below_drewN ?_ _) | (with_reducible refine Below.drew ?_) | (with_reducible refine Below.alloc ?_ ?_ _) | (with_reducible refine Below.setCell ?_ ?_ _) | (with_reducible refine Below.trans ?_ (Below.mono (by with_reducible assumption) ?_)) | go_size | (dsimp only; omega))), by simp⟩
      case round =>
        obtain ⟨k, hk1, hk, rfl, HG, d0, d1, fw, hB, hw⟩ := hrel
        by_cases hlt : k < n
        · have hltI : (k : Int) < (n : Int) := by omega
          have q1 : wr.cell? ⟨b, k, none⟩ = some (.int .i64 (zs.getD k 0)) := by
            rw [hB.cell (p := ⟨b, k, none⟩) hb]; have := HR.out k (by rw [HL.out]; exact hlt); simpa only [Nat.zero_add] using this
          have hbad : ¬ okC zs k → contV zs = .tuple #[.agg #[.int .i64 0, .int .i64 0], .int .i64 2] := fun h => contV_no (fun h' => h (h'.2.2 k (by rw [HL.out]; exact hlt)))
          have hgood : okC zs k → ∀ i, i < k + 1 → okC zs i := by
            intro h i hi
            by_cases e : i = k
            · subst e; exact h
            · exact HG.out i (by omega)
          have hof : okC zs k ↔ (1 ≤ zs.getD k 0 ∧ zs.getD k 0 ≤ 1000000000 ∧ ¬ (k + 1 = n ∧ zs.getD k 0 = 1)) := by
            unfold okC; rw [if_neg (by omega), HL.out]
          cases hin : (decide (1 ≤ zs.getD k 0) && decide (zs.getD k 0 ≤ 1000000000))
          · have hno := hbad (fun h => by have := hof.mp h; simp only [Bool.and_eq_false_iff, decide_eq_false_iff_not] at hin; omega)
            have HNO := Lib.hid (HV.out.symm.trans hno)
            have HIN := Lib.hid hin
            clear hbad hgood hof hin hno
            generalize zs.getD k 0 = z at *
            go_wp2_with fail
            refine (l01In_c _ _ _ _).mono ?_
            rintro e w' ⟨rfl, rfl⟩
            rw [HIN.out]
            go_wp2
            exact bodyPost_ret (v := .tuple #[.agg #[.int .i64 0, .int .i64 0], .int .i64 2]) (by simp only [results, Try.results21]; go_simp) rfl ⟨congrArg Ending.returned HNO.out.symm, (by repeat' (first | (with_reducible exact Below.refl _ _) | (with_reducible assumption) | (with_reducible refine below_drewN ?_ _) | (with_reducible refine Below.drew ?_) | (with_reducible refine Below.alloc ?_ ?_ _) | (with_reducible refine Below.setCell ?_ ?_ _) | (with_reducible refine Below.trans ?_ (Below.mono (by with_reducible assumption) ?_)) | go_size | (dsimp only; omega)))⟩
          · have hin' : 1 ≤ zs.getD k 0 ∧ zs.getD k 0 ≤ 1000000000 := by simpa using hin
            have HIN := Lib.hid hin
            by_cases hl1 : k + 1 = n
            · have e4 : (n : Int) - 1 = (k : Int) := by omega
              have HLL := Lib.hid hl1
              clear hl1
              by_cases hz1 : zs.getD k 0 = 1
              · have hno := hbad (fun h => (hof.mp h).2.2 ⟨HLL.out, hz1⟩)
                have HNO := Lib.hid (HV.out.symm.trans hno)
                clear hbad hgood hof hin hno hin'
                generalize zs.getD k 0 = z at *
                subst hz1
                go_wp2_with fail
                refine (l01In_c _ _ _ _).mono ?_
                rintro e w' ⟨rfl, rfl⟩
                go_wp2
                exact bodyPost_ret (v := .tuple #[.agg #[.int .i64 0, .int .i64 0], .int .i64 2]) (by simp only [results, Try.results21]; go_simp) rfl ⟨congrArg Ending.returned HNO.out.symm, (by repeat' (first | (with_reducible exact Below.refl _ _) | (with_reducible assumption) | (with_reducible refine below_drewN ?_ _) | (with_reducible refine Below.drew ?_) | (with_reducible refine Below.alloc ?_ ?_ _) | (with_reducible refine Below.setCell ?_ ?_ _) | (with_reducible refine Below.trans ?_ (Below.mono (by with_reducible assumption) ?_)) | go_size | (dsimp only; omega)))⟩
              · have HG' := Lib.hid (hgood (hof.mpr ⟨hin'.1, hin'.2, fun h => hz1 h.2⟩))
                clear hbad hgood hof hin
                generalize zs.getD k 0 = z at *
                have e5 : (z == 1) = false := by simpa using hz1
                go_wp2_with fail
                refine (l01In_c _ _ _ _).mono ?_
                rintro e w' ⟨rfl, rfl⟩
                rw [HIN.out]
                go_wp2
                go_roundw
                case rel => exact ⟨k + 1, by omega, by omega, by go_num, HG', by go_simp, by go_simp, (by intro i; go_simp), (by repeat' (first | (with_reducible exact Below.refl _ _) | (with_reducible assumption) | (with_reducible refine below_drewN ?_ _) | (with_reducible refine Below.drew ?_) | (with_reducible refine Below.alloc ?_ ?_ _) | (with_reducible refine Below.setCell ?_ ?_ _) | (with_reducible refine Below.trans ?_ (Below.mono (by with_reducible assumption) ?_)) | go_size | (dsimp only; omega))), by go_size⟩
                case measure => simp [intOf]; omega
            · have e3 : ((k : Int) == (n : Int) - 1) = false := by simp; omega
              have e4 : ¬ (k : Int) = (n : Int) - 1 := by omega
              have HG' := Lib.hid (hgood (hof.mpr ⟨hin'.1, hin'.2, fun h => hl1 h.1⟩))
              clear hbad hgood hof hin
              generalize zs.getD k 0 = z at *
              go_wp2_with fail
              refine (l01In_c _ _ _ _).mono ?_
              rintro e w' ⟨rfl, rfl⟩
              rw [HIN.out]
              go_wp2
              go_roundw
              case rel => exact ⟨k + 1, by omega, by omega, by go_num, HG', by go_simp, by go_simp, (by intro i; go_simp), (by repeat' (first | (with_reducible exact Below.refl _ _) | (with_reducible assumption) | (with_reducible refine below_drewN ?_ _) | (with_reducible refine Below.drew ?_) | (with_reducible refine Below.alloc ?_ ?_ _) | (with_reducible refine Below.setCell ?_ ?_ _) | (with_reducible refine Below.trans ?_ (Below.mono (by with_reducible assumption) ?_)) | go_size | (dsimp only; omega))), by go_size⟩
              case measure => simp [intOf]; omega
        · obtain rfl : k = n := by omega
          have hok : OkC zs := ⟨by rw [HL.out]; exact h1, by rw [HL.out]; exact h60, fun i hi => HG.out i (by rw [HL.out] at hi; exact hi)⟩
          have HEN : Hid (∀ j, j < k → ent (zs.getD j 0) = true) := Lib.hid (fun j hj => OkC_ent hok j (by rw [HL.out]; exact hj))
          have HRW : Hid (∀ j, j < k → wr.cell? ⟨b, 0 + j, none⟩ = some (.int .i64 (zs.getD j 0))) := Lib.hid (fun j hj => by rw [hB.cell (p := ⟨b, 0 + j, none⟩) hb]; exact HR.out j (by rw [HL.out]; exact hj))
          have hbw : b < wr.heap.size := by omega
          cases hL : convs 1 0 0 1 zs with
          | none =>
            have HNO := Lib.hid (HV.out.symm.trans (contV_lim hok hL))
            have HC := Lib.hid hL
            clear hok hL
            go_wp2_with fail
            refine (l03Convergents_no b 0 k k zs _ hbw HRW HL (by omega) HEN HC).mono ?_
            rintro e w2 ⟨v, rfl, b2⟩
            have zzb2 := b2.size; (try simp at zzb2); have zb2_0 : w.heap.size < w2.heap.size := (by omega); have kcb2_0 : ∀ o, w2.cell? ⟨w.heap.size, o, none⟩ = _ := fun o => b2.cell (p := ⟨w.heap.size, o, none⟩) (by go_size); have kfb2_0 : ∀ o, w2.frozen? ⟨w.heap.size, o, none⟩ = _ := fun o => b2.frozen (p := ⟨w.heap.size, o, none⟩) (by go_size); clear zzb2
            go_wp2
            exact bodyPost_ret (v := .tuple #[.agg #[.int .i64 0, .int .i64 0], .int .i64 3]) (by simp only [results, Try.results21]; go_simp) rfl ⟨congrArg Ending.returned HNO.out.symm, (by repeat' (first | (with_reducible exact Below.refl _ _) | (with_reducible assumption) | (with_reducible refine below_drewN ?_ _) | (with_reducible refine Below.drew ?_) | (with_reducible refine Below.alloc ?_ ?_ _) | (with_reducible refine Below.setCell ?_ ?_ _) | (with_reducible refine Below.trans ?_ (Below.mono (by with_reducible assumption) ?_)) | go_size | (dsimp only; omega)))⟩
          | some L =>
            have hll := convs_len hL
            rw [HL.out] at hll
            have hy := contV_yes hok hL
            rw [HL.out] at hy
            obtain ⟨y0, hy0⟩ : ∃ y, L.getD ((k - 1) * 2) 0 = y := ⟨_, rfl⟩
            obtain ⟨y1, hy1⟩ : ∃ y, L.getD ((k - 1) * 2 + 1) 0 = y := ⟨_, rfl⟩
            rw [hy0, hy1] at hy
            have HY0 := Lib.hid hy0
            have HY1 := Lib.hid hy1
            have HNO := Lib.hid (HV.out.symm.trans hy)
            have HC := Lib.hid hL
            have HLL := Lib.hid hll
            clear hok hL hy hy0 hy1
            go_wp2_with fail
            refine (l03Convergents_yes b 0 k k zs L _ hbw HRW HL (by omega) HEN HC HLL).mono ?_
            rintro e w2 ⟨v, rfl, ho, b2⟩
            have zzb2 := b2.size; (try simp at zzb2); have zb2_0 : w.heap.size < w2.heap.size := (by omega); have kcb2_0 : ∀ o, w2.cell? ⟨w.heap.size, o, none⟩ = _ := fun o => b2.cell (p := ⟨w.heap.size, o, none⟩) (by go_size); have kfb2_0 : ∀ o, w2.frozen? ⟨w.heap.size, o, none⟩ = _ := fun o => b2.frozen (p := ⟨w.heap.size, o, none⟩) (by go_size); clear zzb2
            rcases ho with ⟨h, _⟩ | ⟨g, n2, cg, rfl, hl2, hg0, hg1, hg2, _⟩
            · rw [h] at hll; simp at hll; omega
            obtain rfl : n2 = k := by omega
            have q0 : w2.cell? ⟨g, (n2 - 1) * 2, none⟩ = some (.int .i64 y0) := by rw [← HY0.out]; have := hg2 ((n2 - 1) * 2) (by omega); simpa only [Nat.zero_add] using this
            have q1 : w2.cell? ⟨g, (n2 - 1) * 2 + 1, none⟩ = some (.int .i64 y1) := by rw [← HY1.out]; have := hg2 ((n2 - 1) * 2 + 1) (by omega); simpa only [Nat.zero_add] using this
            clear hg2
            go_wp2
            exact bodyPost_ret (v := .tuple #[.agg #[.int .i64 y0, .int .i64 y1], .int .i64 0]) (by simp only [results, Try.results21]; go_simp) rfl ⟨congrArg Ending.returned HNO.out.symm, (by repeat' (first | (with_reducible exact Below.refl _ _) | (with_reducible assumption) | (with_reducible refine below_drewN ?_ _) | (with_reducible refine Below.drew ?_) | (with_reducible refine Below.alloc ?_ ?_ _) | (with_reducible refine Below.setCell ?_ ?_ _) | (with_reducible refine Below.trans ?_ (Below.mono (by with_reducible assumption) ?_)) | go_size | (dsimp only; omega)))⟩
end Go.Proofs.Ytmopjfjmmdnapaa
