/- MatrixOfChain. -/
import Derived.Test.YtgpnfjpnbchglaaHA
import Derived.Deep.DeepCutAuto
import Derived.StillTailTactics
namespace Go.Proofs.Ytgpnfjpnbchglaa
open Go.RowKit
set_option linter.unusedVariables false
set_option linter.unusedSimpArgs false
attribute [local go_sem] run_min_int4 run_max_int4
/-- where the reference's product of a chain stands -/
def AtC (f : Bool) (m : M4) (l : List M4) : Prop := if f = true then m.ent = true ∧ prodL M4.I l = some m else prodL M4.I l = none
theorem AtC.next {m x : M4} {l : List M4} (h : AtC true m l) (hf : (m.mul x).ent = true) : AtC true (m.mul x) (l ++ [x]) := by
  simp only [AtC, if_true] at h ⊢
  refine ⟨hf, ?_⟩
  rw [prodL_append, h.2]
  show prodL m [x] = _
  rw [prodL, if_pos hf]; rfl
theorem AtC.stop {m x : M4} {l : List M4} (h : AtC true m l) (hf : (m.mul x).ent = false) : prodL M4.I (l ++ [x]) = none := by
  simp only [AtC, if_true] at h
  rw [prodL_append, h.2]
  show prodL m [x] = _
  rw [prodL, if_neg (by rw [hf]; simp)]
theorem none_more {l l2 : List M4} (h : prodL M4.I l = none) : prodL M4.I (l ++ l2) = none := by rw [prodL_append, h]; rfl
theorem AtC.none {m : M4} {l : List M4} (h : prodL M4.I l = none) : AtC false m l := by simp only [AtC]; exact h
set_option maxRecDepth 100000 in
set_option maxHeartbeats 8000000 in
theorem sMatrixOfChain_row (sg : Int) (b o c : Nat) (zs : List Int) (w : World) (hb : b < w.heap.size) (hr : RowI w b o zs) (hm : zs.length ≤ 1000000000) (hn0 : zs ≠ []) :
    Calls Try.prog 12 #[.int .i64 sg, .slice (some ⟨b, o, none⟩) zs.length c] w fun e w' => e = .returned (chainV sg zs) ∧ Below w.heap.size w w' := by
  have hpos : 0 < zs.length := List.length_pos_iff.mpr hn0
  have HR : Hid (∀ k, k < zs.length → w.cell? ⟨b, o + k, none⟩ = some (.int .i64 (zs.getD k 0))) := Lib.hid hr
  generalize hn : zs.length = n at *
  have HL := Lib.hid hn
  clear hn hr hn0
  have hn1 : ¬ ((n : Int) < 1) := by omega
  by_cases hsg : sg = 1 ∨ sg = -1
  case neg =>
    have hno : chainV sg zs = .tuple #[.agg #[.int .i64 0, .int .i64 0, .int .i64 0, .int .i64 0], .int .i64 2] := chainV_no (fun h => hsg h.1)
    have HNO := Lib.hid hno
    have s1 : ¬ sg = 1 := fun e => hsg (.inl e)
    have s2 : ¬ sg = -1 := fun e => hsg (.inr e)
    have s3 : (sg == 1) = false := by simpa using s1
    have s4 : (sg == -1) = false := by simpa using s2
    clear hno hsg
    go_enter Try.func12, Try.ntmps12
    go_wp2
    exact bodyPost_ret (v := .tuple #[.agg #[.int .i64 0, .int .i64 0, .int .i64 0, .int .i64 0], .int .i64 2]) (by simp only [results, Try.results12]; go_simp) rfl ⟨congrArg Ending.returned HNO.out.symm, (by repeat' (first | (with_reducible exact Below.refl _ _) | (with_reducible assumption) | (with_reducible refine below_drewN ?_ _) | (with_reducible refine Below.drew ?_) | (with_reducible refine Below.alloc ?_ ?_ _) | (with_reducible refine Below.setCell ?_ ?_ _) | (with_reducible refine Below.trans ?_ (Below.mono (by with_reducible assumption) ?_)) | go_size | (dsimp only; omega)))⟩
  case pos =>
  by_cases hl : n ≤ 100
  case neg =>
    have hn100 : (100 < (n : Int)) := by omega
    have hno : chainV sg zs = .tuple #[.agg #[.int .i64 0, .int .i64 0, .int .i64 0, .int .i64 0], .int .i64 2] := chainV_no (fun h => by have := h.2.2.1; rw [HL.out] at this; omega)
    have HNO := Lib.hid hno
    clear hno
    rcases hsg with rfl | rfl
    · go_enter Try.func12, Try.ntmps12
      go_wp2
      exact bodyPost_ret (v := .tuple #[.agg #[.int .i64 0, .int .i64 0, .int .i64 0, .int .i64 0], .int .i64 2]) (by simp only [results, Try.results12]; go_simp) rfl ⟨congrArg Ending.returned HNO.out.symm, (by repeat' (first | (with_reducible exact Below.refl _ _) | (with_reducible assumption) | (with_reducible refine below_drewN ?_ _) | (with_reducible refine Below.drew ?_) | (with_reducible refine Below.alloc ?_ ?_ _) | (with_reducible refine Below.setCell ?_ ?_ _) | (with_reducible refine Below.trans ?_ (Below.mono (by with_reducible assumption) ?_)) | go_size | (dsimp only; omega)))⟩
    · go_enter Try.func12, Try.ntmps12
      go_wp2
      exact bodyPost_ret (v := .tuple #[.agg #[.int .i64 0, .int .i64 0, .int .i64 0, .int .i64 0], .int .i64 2]) (by simp only [results, Try.results12]; go_simp) rfl ⟨congrArg Ending.returned HNO.out.symm, (by repeat' (first | (with_reducible exact Below.refl _ _) | (with_reducible assumption) | (with_reducible refine below_drewN ?_ _) | (with_reducible refine Below.drew ?_) | (with_reducible refine Below.alloc ?_ ?_ _) | (with_reducible refine Below.setCell ?_ ?_ _) | (with_reducible refine Below.trans ?_ (Below.mono (by with_reducible assumption) ?_)) | go_size | (dsimp only; omega)))⟩
  case pos =>
  have hn100 : ¬ (100 < (n : Int)) := by omega
  have HS := Lib.hid hsg
  have hsb : -1 ≤ sg ∧ sg ≤ 1 := by omega
  have hst : (sg != 1 && sg != -1) = false := by rcases hsg with rfl | rfl <;> rfl
  rcases hsg with rfl | rfl
  · go_enter Try.func12, Try.ntmps12
    go_wp2
    go_loopw [6] (fun i wr => ∃ k : Nat, k ≤ n ∧ i = .int .i64 k ∧ Hid (∀ i, i < k → ent (zs.getD i 0) = true) ∧ wr.cell? ⟨w.heap.size, 0, none⟩ = some (.int .i64 0) ∧ wr.cell? ⟨w.heap.size, 1, none⟩ = some (.int .i64 0) ∧ wr.cell? ⟨w.heap.size, 2, none⟩ = some (.int .i64 0) ∧ wr.cell? ⟨w.heap.size, 3, none⟩ = some (.int .i64 0) ∧ (∀ i, wr.frozen? ⟨w.heap.size, i, none⟩ = false) ∧ Below w.heap.size w wr ∧ w.heap.size < wr.heap.size) (fun i wr => n - (intOf i).toNat)
    case atStart => exact ⟨0, Nat.zero_le _, rfl, Lib.hid (fun i h => by omega), by go_cell, by go_cell, by go_cell, by go_cell, (by intro i; first | (simp; done) | (go_simp; done)), (by repeat' (first | (with_reducible exact Below.refl _ _) | (with_reducible assumption) | (with_reducible refine below_drewN ?_ _) | (with_reducible refine Below.drew ?_) | (with_reducible refine Below.alloc ?_ ?_ _) | (with_reducible refine Below.setCell ?_ ?_ _) | (with_reducible refine Below.trans ?_ (Below.mono (by with_reducible assumption) ?_)) | go_size | (dsimp only; omega))), by simp⟩
    case round =>
      obtain ⟨k, hk, rfl, HG, d0, d1, d2, d3, fw, hB, hw⟩ := hrel
      by_cases hlt : k < n
      · have hltI : (k : Int) < (n : Int) := by omega
        have q1 : wr.cell? ⟨b, o + k, none⟩ = some (.int .i64 (zs.getD k 0)) := by
          rw [hB.cell (p := ⟨b, o + k, none⟩) hb]; exact HR.out k hlt
        cases hin : ent (zs.getD k 0)
        · have HNO : Hid (chainV 1 zs = .tuple #[.agg #[.int .i64 0, .int .i64 0, .int .i64 0, .int .i64 0], .int .i64 2]) := Lib.hid (chainV_no (fun h => by have := h.2.2.2 k (by rw [HL.out]; exact hlt); rw [hin] at this; cases this))
          have HIN := Lib.hid hin
          clear hin
          generalize zs.getD k 0 = z at *
          go_wp2_with fail
          refine (l01In_c _ _ _ _).mono ?_
          rintro e w' ⟨rfl, rfl⟩
          rw [show (decide (-1000000000 ≤ z) && decide (z ≤ 1000000000)) = false from HIN.out]
          go_wp2
          exact bodyPost_ret (v := .tuple #[.agg #[.int .i64 0, .int .i64 0, .int .i64 0, .int .i64 0], .int .i64 2]) (by simp only [results, Try.results12]; go_simp) rfl ⟨congrArg Ending.returned HNO.out.symm, (by repeat' (first | (with_reducible exact Below.refl _ _) | (with_reducible assumption) | (with_reducible refine below_drewN ?_ _) | (with_reducible refine Below.drew ?_) | (with_reducible refine Below.alloc ?_ ?_ _) | (with_reducible refine Below.setCell ?_ ?_ _) | (with_reducible refine Below.trans ?_ (Below.mono (by with_reducible assumption) ?_)) | go_size | (dsimp only; omega)))⟩
        · have hg' : ∀ i, i < k + 1 → ent (zs.getD i 0) = true := by
            intro i hi
            by_cases e : i = k
            · subst e; exact hin
            · exact HG.out i (by omega)
          have HG' := Lib.hid hg'
          have HIN := Lib.hid hin
          clear hin hg'
          generalize zs.getD k 0 = z at *
          go_wp2_with fail
          refine (l01In_c _ _ _ _).mono ?_
          rintro e w' ⟨rfl, rfl⟩
          rw [show (decide (-1000000000 ≤ z) && decide (z ≤ 1000000000)) = true from HIN.out]
          go_wp2
          go_roundw
          case rel => exact ⟨k + 1, by omega, by go_num, HG', by go_simp, by go_simp, by go_simp, by go_simp, (by intro i; go_simp), (by repeat' (first | (with_reducible exact Below.refl _ _) | (with_reducible assumption) | (with_reducible refine below_drewN ?_ _) | (with_reducible refine Below.drew ?_) | (with_reducible refine Below.alloc ?_ ?_ _) | (with_reducible refine Below.setCell ?_ ?_ _) | (with_reducible refine Below.trans ?_ (Below.mono (by with_reducible assumption) ?_)) | go_size | (dsimp only; omega))), by go_size⟩
          case measure => simp [intOf]; omega
      · have hOK : OkC 1 zs := ⟨(by decide), by rw [HL.out]; omega, by rw [HL.out]; exact hl, fun i hi => HG.out i (by rw [HL.out] at hi; omega)⟩
        have HV : Hid (chainV 1 zs = prodV (prodL M4.I (cC 1 zs n))) := Lib.hid (by rw [chainV_yes hOK, HL.out])
        have HOK := Lib.hid hOK
        have HST := Lib.hid (cC_start (sg := 1) (by decide) zs)
        clear hOK
        go_wp2
        obtain ⟨wo, rfl⟩ : ∃ wo : World, wo = wr := ⟨_, rfl⟩
        go_loopw [8, 9] (fun f i wr => ∃ (k : Nat) (bb : Bool) (p q r t : Int), k ≤ n ∧ i = .int .i64 k ∧ f = .bool bb ∧ Hid (AtC bb ⟨p, q, r, t⟩ (cC 1 zs k)) ∧ wr.cell? ⟨wo.heap.size, 0, none⟩ = some (.int .i64 p) ∧ wr.cell? ⟨wo.heap.size, 1, none⟩ = some (.int .i64 q) ∧ wr.cell? ⟨wo.heap.size, 2, none⟩ = some (.int .i64 r) ∧ wr.cell? ⟨wo.heap.size, 3, none⟩ = some (.int .i64 t) ∧ (∀ i, wr.frozen? ⟨wo.heap.size, i, none⟩ = false) ∧ wr.cell? ⟨w.heap.size, 0, none⟩ = some (.int .i64 0) ∧ wr.cell? ⟨w.heap.size, 1, none⟩ = some (.int .i64 0) ∧ wr.cell? ⟨w.heap.size, 2, none⟩ = some (.int .i64 0) ∧ wr.cell? ⟨w.heap.size, 3, none⟩ = some (.int .i64 0) ∧ (∀ i, wr.frozen? ⟨w.heap.size, i, none⟩ = false) ∧ Below w.heap.size w wr ∧ w.heap.size < wr.heap.size ∧ wo.heap.size < wr.heap.size) (fun f i wr => n - (intOf i).toNat)
        case atStart => exact ⟨0, true, 1, 0, 0, 1, Nat.zero_le _, rfl, rfl, Lib.hid (by unfold AtC; rw [if_pos rfl]; exact ⟨by decide, HST.out⟩), by go_cell, by go_cell, by go_cell, by go_cell, (by intro i; first | (simp; done) | (go_simp; done)), by go_simp, by go_simp, by go_simp, by go_simp, (by intro i; go_simp), (by repeat' (first | (with_reducible exact Below.refl _ _) | (with_reducible assumption) | (with_reducible refine below_drewN ?_ _) | (with_reducible refine Below.drew ?_) | (with_reducible refine Below.alloc ?_ ?_ _) | (with_reducible refine Below.setCell ?_ ?_ _) | (with_reducible refine Below.trans ?_ (Below.mono (by with_reducible assumption) ?_)) | go_size | (dsimp only; omega))), by go_size, by go_size⟩
        case round =>
          obtain ⟨j, bb, p, q, r, t, hj, rfl, rfl, HA, c0, c1, c2, c3, fg, d0', d1', d2', d3', fw', hB', hw', hg'⟩ := hrel
          clear d0 d1 d2 d3 fw hB
          have hne : ¬ w.heap.size = wo.heap.size := by omega
          have hne' : ¬ wo.heap.size = w.heap.size := by omega
          cases bb
          · have hnone : chainV 1 zs = .tuple #[.agg #[.int .i64 0, .int .i64 0, .int .i64 0, .int .i64 0], .int .i64 3] := by
              have := HA.out
              simp only [AtC] at this
              rw [HV.out, cC_none _ _ hj this]; rfl
            have HN := Lib.hid hnone
            clear hnone
            by_cases hlt2 : j < n
            · go_wp2
              exact bodyPost_ret (v := .tuple #[.agg #[.int .i64 0, .int .i64 0, .int .i64 0, .int .i64 0], .int .i64 3]) (by simp only [results, Try.results12]; go_simp) rfl ⟨congrArg Ending.returned HN.out.symm, (by repeat' (first | (with_reducible exact Below.refl _ _) | (with_reducible assumption) | (with_reducible refine below_drewN ?_ _) | (with_reducible refine Below.drew ?_) | (with_reducible refine Below.alloc ?_ ?_ _) | (with_reducible refine Below.setCell ?_ ?_ _) | (with_reducible refine Below.trans ?_ (Below.mono (by with_reducible assumption) ?_)) | go_size | (dsimp only; omega)))⟩
            · go_wp2
              exact bodyPost_ret (v := .tuple #[.agg #[.int .i64 0, .int .i64 0, .int .i64 0, .int .i64 0], .int .i64 3]) (by simp only [results, Try.results12]; go_simp) rfl ⟨congrArg Ending.returned HN.out.symm, (by repeat' (first | (with_reducible exact Below.refl _ _) | (with_reducible assumption) | (with_reducible refine below_drewN ?_ _) | (with_reducible refine Below.drew ?_) | (with_reducible refine Below.alloc ?_ ?_ _) | (with_reducible refine Below.setCell ?_ ?_ _) | (with_reducible refine Below.trans ?_ (Below.mono (by with_reducible assumption) ?_)) | go_size | (dsimp only; omega)))⟩
          · by_cases hlt2 : j < n
            · have hlt3 : (j : Int) < (n : Int) := by omega
              have hjl : j < zs.length := by rw [HL.out]; exact hlt2
              have q1 : wr.cell? ⟨b, o + j, none⟩ = some (.int .i64 (zs.getD j 0)) := by
                rw [hB'.cell (p := ⟨b, o + j, none⟩) hb]; exact HR.out j hlt2
              have HE := Lib.hid (mT_ent (HOK.out.2.2.2 j hjl))
              have HME : Hid (M4.ent ⟨p, q, r, t⟩ = true) := Lib.hid (by have := HA.out; simp only [AtC, if_true] at this; exact this.1)
              have hcc : cC 1 zs (j + 1) = cC 1 zs j ++ (if j = 0 then [mT (zs.getD j 0)] else [mS, mT (zs.getD j 0)]) := rfl
              have HCC := Lib.hid hcc
              clear hjl hcc
              generalize zs.getD j 0 = z at *
              have hbl : b < wr.heap.size := by omega
              have hbn : ¬ b = wo.heap.size := by omega
              have hbn' : ¬ b = w.heap.size := by omega
              by_cases hj0 : j = 0
              · have hj1 : ¬ (0 : Int) < (j : Int) := by omega
                have hc1 : cC 1 zs (j + 1) = cC 1 zs j ++ [mT z] := by rw [HCC.out, if_pos hj0]
                have HC1 := Lib.hid hc1
                clear hc1 HCC
                subst hj0
                rw [Nat.add_zero] at q1
                cases he : M4.ent (M4.mul ⟨p, q, r, t⟩ (mT z))
                · have HNN := Lib.hid (HA.out.stop he)
                  have HE2 := Lib.hid he
                  clear he
                  go_wp2
                  go_region_with ((go_at_call 44; refine (l01Times_no ⟨p, q, r, t⟩ (mT z) _ HME.out HE.out HE2.out).mono ?_; rintro e w9 ⟨rfl, hb9⟩; have zzhb9 := hb9.size; (try simp at zzhb9); have zhb9_w0 : w.heap.size < w9.heap.size := (by omega); have kchb9_w0 : ∀ o, w9.cell? ⟨w.heap.size, o, none⟩ = _ := fun o => hb9.cell (p := ⟨w.heap.size, o, none⟩) (by go_size); have kfhb9_w0 : ∀ o, w9.frozen? ⟨w.heap.size, o, none⟩ = _ := fun o => hb9.frozen (p := ⟨w.heap.size, o, none⟩) (by go_size); have zhb9_wo0 : wo.heap.size < w9.heap.size := (by omega); have kchb9_wo0 : ∀ o, w9.cell? ⟨wo.heap.size, o, none⟩ = _ := fun o => hb9.cell (p := ⟨wo.heap.size, o, none⟩) (by go_size); have kfhb9_wo0 : ∀ o, w9.frozen? ⟨wo.heap.size, o, none⟩ = _ := fun o => hb9.frozen (p := ⟨wo.heap.size, o, none⟩) (by go_size); clear zzhb9))
                  all_goals
                    go_wp2
                    go_roundw
                    case rel => exact ⟨0 + 1, false, 0, 0, 0, 0, by omega, by go_num, rfl, Lib.hid (by rw [HC1.out]; exact AtC.none HNN.out), (by first | (go_simp; done) | (go_simp; rfl)), (by first | (go_simp; done) | (go_simp; rfl)), (by first | (go_simp; done) | (go_simp; rfl)), (by first | (go_simp; done) | (go_simp; rfl)), (by intro i; go_simp), (by first | (go_simp; done) | (go_simp; rfl)), (by first | (go_simp; done) | (go_simp; rfl)), (by first | (go_simp; done) | (go_simp; rfl)), (by first | (go_simp; done) | (go_simp; rfl)), (by intro i; go_simp), (by repeat' (first | (with_reducible exact Below.refl _ _) | (with_reducible assumption) | (with_reducible refine below_drewN ?_ _) | (with_reducible refine Below.drew ?_) | (with_reducible refine Below.alloc ?_ ?_ _) | (with_reducible refine Below.setCell ?_ ?_ _) | (with_reducible refine Below.trans ?_ (Below.mono (by with_reducible assumption) ?_)) | go_size | (dsimp only; omega))), by go_size, by go_size⟩
                    case measure => simp [intOf]; omega
                · have HA3 := Lib.hid (HA.out.next he)
                  have HE2 := Lib.hid he
                  clear he
                  have hMV : (M4.mul ⟨p, q, r, t⟩ (mT z)).v = .agg #[.int .i64 ((M4.mul ⟨p, q, r, t⟩ (mT z)).a), .int .i64 ((M4.mul ⟨p, q, r, t⟩ (mT z)).b), .int .i64 ((M4.mul ⟨p, q, r, t⟩ (mT z)).c), .int .i64 ((M4.mul ⟨p, q, r, t⟩ (mT z)).d)] := rfl
                  have HMV := Lib.hid hMV
                  clear hMV
                  go_wp2
                  go_region_with ((go_at_call 44; refine (l01Times_yes ⟨p, q, r, t⟩ (mT z) _ HME.out HE.out HE2.out).mono ?_; rintro e w9 ⟨rfl, hb9⟩; rw [HMV.out]; have zzhb9 := hb9.size; (try simp at zzhb9); have zhb9_w0 : w.heap.size < w9.heap.size := (by omega); have kchb9_w0 : ∀ o, w9.cell? ⟨w.heap.size, o, none⟩ = _ := fun o => hb9.cell (p := ⟨w.heap.size, o, none⟩) (by go_size); have kfhb9_w0 : ∀ o, w9.frozen? ⟨w.heap.size, o, none⟩ = _ := fun o => hb9.frozen (p := ⟨w.heap.size, o, none⟩) (by go_size); have zhb9_wo0 : wo.heap.size < w9.heap.size := (by omega); have kchb9_wo0 : ∀ o, w9.cell? ⟨wo.heap.size, o, none⟩ = _ := fun o => hb9.cell (p := ⟨wo.heap.size, o, none⟩) (by go_size); have kfhb9_wo0 : ∀ o, w9.frozen? ⟨wo.heap.size, o, none⟩ = _ := fun o => hb9.frozen (p := ⟨wo.heap.size, o, none⟩) (by go_size); clear zzhb9))
                  all_goals
                    go_wp2
                    go_roundw
                    case rel => exact ⟨0 + 1, true, _, _, _, _, by omega, by go_num, rfl, Lib.hid (by rw [HC1.out]; exact HA3.out), (by first | (go_simp; done) | (go_simp; rfl)), (by first | (go_simp; done) | (go_simp; rfl)), (by first | (go_simp; done) | (go_simp; rfl)), (by first | (go_simp; done) | (go_simp; rfl)), (by intro i; go_simp), (by first | (go_simp; done) | (go_simp; rfl)), (by first | (go_simp; done) | (go_simp; rfl)), (by first | (go_simp; done) | (go_simp; rfl)), (by first | (go_simp; done) | (go_simp; rfl)), (by intro i; go_simp), (by repeat' (first | (with_reducible exact Below.refl _ _) | (with_reducible assumption) | (with_reducible refine below_drewN ?_ _) | (with_reducible refine Below.drew ?_) | (with_reducible refine Below.alloc ?_ ?_ _) | (with_reducible refine Below.setCell ?_ ?_ _) | (with_reducible refine Below.trans ?_ (Below.mono (by with_reducible assumption) ?_)) | go_size | (dsimp only; omega))), by go_size, by go_size⟩
                    case measure => simp [intOf]; omega
              · have hj1 : (0 : Int) < (j : Int) := by omega
                have hc1 : cC 1 zs (j + 1) = (cC 1 zs j ++ [mS]) ++ [mT z] := by rw [HCC.out, if_neg hj0]; simp
                have HC1 := Lib.hid hc1
                clear hc1 HCC
                cases he : M4.ent (M4.mul ⟨p, q, r, t⟩ mS)
                · have HNN := Lib.hid (none_more (l2 := [mT z]) (HA.out.stop he))
                  have HE2 := Lib.hid he
                  clear he
                  go_wp2_with fail
                  refine (l01Times_no ⟨p, q, r, t⟩ mS _ HME.out (by decide) HE2.out).mono ?_
                  rintro e w4 ⟨rfl, b4⟩
                  have zzb4 := b4.size; (try simp at zzb4); have zb4_w0 : w.heap.size < w4.heap.size := (by omega); have kcb4_w0 : ∀ o, w4.cell? ⟨w.heap.size, o, none⟩ = _ := fun o => b4.cell (p := ⟨w.heap.size, o, none⟩) (by go_size); have kfb4_w0 : ∀ o, w4.frozen? ⟨w.heap.size, o, none⟩ = _ := fun o => b4.frozen (p := ⟨w.heap.size, o, none⟩) (by go_size); have zb4_wo0 : wo.heap.size < w4.heap.size := (by omega); have kcb4_wo0 : ∀ o, w4.cell? ⟨wo.heap.size, o, none⟩ = _ := fun o => b4.cell (p := ⟨wo.heap.size, o, none⟩) (by go_size); have kfb4_wo0 : ∀ o, w4.frozen? ⟨wo.heap.size, o, none⟩ = _ := fun o => b4.frozen (p := ⟨wo.heap.size, o, none⟩) (by go_size); clear zzb4
                  go_wp2
                  go_roundw
                  case rel => exact ⟨j + 1, false, 0, 0, 0, 0, by omega, by go_num, rfl, Lib.hid (by rw [HC1.out]; exact AtC.none HNN.out), (by first | (go_simp; done) | (go_simp; rfl)), (by first | (go_simp; done) | (go_simp; rfl)), (by first | (go_simp; done) | (go_simp; rfl)), (by first | (go_simp; done) | (go_simp; rfl)), (by intro i; go_simp), (by first | (go_simp; done) | (go_simp; rfl)), (by first | (go_simp; done) | (go_simp; rfl)), (by first | (go_simp; done) | (go_simp; rfl)), (by first | (go_simp; done) | (go_simp; rfl)), (by intro i; go_simp), (by repeat' (first | (with_reducible exact Below.refl _ _) | (with_reducible assumption) | (with_reducible refine below_drewN ?_ _) | (with_reducible refine Below.drew ?_) | (with_reducible refine Below.alloc ?_ ?_ _) | (with_reducible refine Below.setCell ?_ ?_ _) | (with_reducible refine Below.trans ?_ (Below.mono (by with_reducible assumption) ?_)) | go_size | (dsimp only; omega))), by go_size, by go_size⟩
                  case measure => simp [intOf]; omega
                · have HA2 := Lib.hid (HA.out.next he)
                  have HE2 := Lib.hid he
                  clear he
                  go_wp2_with fail
                  refine (l01Times_yes ⟨p, q, r, t⟩ mS _ HME.out (by decide) HE2.out).mono ?_
                  rintro e w4 ⟨rfl, b4⟩
                  have zzb4 := b4.size; (try simp at zzb4); have zb4_w0 : w.heap.size < w4.heap.size := (by omega); have kcb4_w0 : ∀ o, w4.cell? ⟨w.heap.size, o, none⟩ = _ := fun o => b4.cell (p := ⟨w.heap.size, o, none⟩) (by go_size); have kfb4_w0 : ∀ o, w4.frozen? ⟨w.heap.size, o, none⟩ = _ := fun o => b4.frozen (p := ⟨w.heap.size, o, none⟩) (by go_size); have zb4_wo0 : wo.heap.size < w4.heap.size := (by omega); have kcb4_wo0 : ∀ o, w4.cell? ⟨wo.heap.size, o, none⟩ = _ := fun o => b4.cell (p := ⟨wo.heap.size, o, none⟩) (by go_size); have kfb4_wo0 : ∀ o, w4.frozen? ⟨wo.heap.size, o, none⟩ = _ := fun o => b4.frozen (p := ⟨wo.heap.size, o, none⟩) (by go_size); clear zzb4
                  have kb4 : ∀ o, w4.cell? ⟨b, o, none⟩ = wr.cell? ⟨b, o, none⟩ := fun o => b4.cell (p := ⟨b, o, none⟩) hbl
                  have hbl4 : b < w4.heap.size := Nat.lt_of_lt_of_le hbl b4.size
                  have hne4 : ¬ wo.heap.size = b := fun e => hbn e.symm
                  have HME2 := Lib.hid HE2.out
                  generalize hmm : M4.mul ⟨p, q, r, t⟩ mS = mm at *
                  obtain ⟨p2, q2, r2, t2⟩ := mm
                  have hMV : (M4.mk p2 q2 r2 t2).v = .agg #[.int .i64 p2, .int .i64 q2, .int .i64 r2, .int .i64 t2] := rfl
                  rw [hMV]
                  clear hmm hMV HE2
                  go_upto_region 15 with fail
                  generalize hw5 : World.setCell _ _ _ = w5
                  have e0 : w5.cell? ⟨wo.heap.size, 0, none⟩ = some (.int .i64 p2) := by subst hw5; go_simp
                  have e1 : w5.cell? ⟨wo.heap.size, 1, none⟩ = some (.int .i64 q2) := by subst hw5; go_simp
                  have e2 : w5.cell? ⟨wo.heap.size, 2, none⟩ = some (.int .i64 r2) := by subst hw5; go_simp
                  have e3 : w5.cell? ⟨wo.heap.size, 3, none⟩ = some (.int .i64 t2) := by subst hw5; go_simp
                  have ef : ∀ i, w5.frozen? ⟨wo.heap.size, i, none⟩ = false := by subst hw5; intro i; go_simp
                  have h0 : w5.cell? ⟨w.heap.size, 0, none⟩ = some (.int .i64 0) := by subst hw5; go_simp
                  have h1 : w5.cell? ⟨w.heap.size, 1, none⟩ = some (.int .i64 0) := by subst hw5; go_simp
                  have h2 : w5.cell? ⟨w.heap.size, 2, none⟩ = some (.int .i64 0) := by subst hw5; go_simp
                  have h3 : w5.cell? ⟨w.heap.size, 3, none⟩ = some (.int .i64 0) := by subst hw5; go_simp
                  have hf : ∀ i, w5.frozen? ⟨w.heap.size, i, none⟩ = false := by subst hw5; intro i; go_simp
                  have hl : w5.cell? ⟨b, o + j, none⟩ = some (.int .i64 z) := by subst hw5; (repeat (with_reducible refine keep_set ?_ (by dsimp only; omega))); rw [kb4]; exact q1
                  have hB5 : Below w.heap.size w w5 := by subst hw5; exact (by repeat' (first | (with_reducible exact Below.refl _ _) | (with_reducible assumption) | (with_reducible refine below_drewN ?_ _) | (with_reducible refine Below.drew ?_) | (with_reducible refine Below.alloc ?_ ?_ _) | (with_reducible refine Below.setCell ?_ ?_ _) | (with_reducible refine Below.trans ?_ (Below.mono (by with_reducible assumption) ?_)) | go_size | (dsimp only; omega)))
                  have hs5 : w.heap.size < w5.heap.size := by subst hw5; go_size
                  have hs5' : wo.heap.size < w5.heap.size := by subst hw5; go_size
                  have hs5b : b < w5.heap.size := by subst hw5; go_size
                  clear hw5 kb4 kcb4_w0 kfb4_w0 kcb4_wo0 kfb4_wo0 b4 c0 c1 c2 c3 fg d0' d1' d2' d3' fw' hB' q1
                  cases he : M4.ent (M4.mul ⟨p2, q2, r2, t2⟩ (mT z))
                  · have HNN := Lib.hid (HA2.out.stop he)
                    have HE2 := Lib.hid he
                    clear he
                    go_region_with ((go_at_call 44; refine (l01Times_no ⟨p2, q2, r2, t2⟩ (mT z) _ HME2.out HE.out HE2.out).mono ?_; rintro e w9 ⟨rfl, hb9⟩; have zzhb9 := hb9.size; (try simp at zzhb9); have zhb9_w0 : w.heap.size < w9.heap.size := (by omega); have kchb9_w0 : ∀ o, w9.cell? ⟨w.heap.size, o, none⟩ = _ := fun o => hb9.cell (p := ⟨w.heap.size, o, none⟩) (by go_size); have kfhb9_w0 : ∀ o, w9.frozen? ⟨w.heap.size, o, none⟩ = _ := fun o => hb9.frozen (p := ⟨w.heap.size, o, none⟩) (by go_size); have zhb9_wo0 : wo.heap.size < w9.heap.size := (by omega); have kchb9_wo0 : ∀ o, w9.cell? ⟨wo.heap.size, o, none⟩ = _ := fun o => hb9.cell (p := ⟨wo.heap.size, o, none⟩) (by go_size); have kfhb9_wo0 : ∀ o, w9.frozen? ⟨wo.heap.size, o, none⟩ = _ := fun o => hb9.frozen (p := ⟨wo.heap.size, o, none⟩) (by go_size); clear zzhb9))
                    all_goals
                      go_wp2
                      go_roundw
                      case rel => exact ⟨j + 1, false, 0, 0, 0, 0, by omega, by go_num, rfl, Lib.hid (by rw [HC1.out]; exact AtC.none HNN.out), (by first | (go_simp; done) | (go_simp; rfl)), (by first | (go_simp; done) | (go_simp; rfl)), (by first | (go_simp; done) | (go_simp; rfl)), (by first | (go_simp; done) | (go_simp; rfl)), (by intro i; go_simp), (by first | (go_simp; done) | (go_simp; rfl)), (by first | (go_simp; done) | (go_simp; rfl)), (by first | (go_simp; done) | (go_simp; rfl)), (by first | (go_simp; done) | (go_simp; rfl)), (by intro i; go_simp), (by repeat' (first | (with_reducible exact Below.refl _ _) | (with_reducible assumption) | (with_reducible refine below_drewN ?_ _) | (with_reducible refine Below.drew ?_) | (with_reducible refine Below.alloc ?_ ?_ _) | (with_reducible refine Below.setCell ?_ ?_ _) | (with_reducible refine Below.trans ?_ (Below.mono (by with_reducible assumption) ?_)) | go_size | (dsimp only; omega))), by go_size, by go_size⟩
                      case measure => simp [intOf]; omega
                  · have HA3 := Lib.hid (HA2.out.next he)
                    have HE2 := Lib.hid he
                    clear he
                    have hMV : (M4.mul ⟨p2, q2, r2, t2⟩ (mT z)).v = .agg #[.int .i64 ((M4.mul ⟨p2, q2, r2, t2⟩ (mT z)).a), .int .i64 ((M4.mul ⟨p2, q2, r2, t2⟩ (mT z)).b), .int .i64 ((M4.mul ⟨p2, q2, r2, t2⟩ (mT z)).c), .int .i64 ((M4.mul ⟨p2, q2, r2, t2⟩ (mT z)).d)] := rfl
                    have HMV := Lib.hid hMV
                    clear hMV
                    go_region_with ((go_at_call 44; refine (l01Times_yes ⟨p2, q2, r2, t2⟩ (mT z) _ HME2.out HE.out HE2.out).mono ?_; rintro e w9 ⟨rfl, hb9⟩; rw [HMV.out]; have zzhb9 := hb9.size; (try simp at zzhb9); have zhb9_w0 : w.heap.size < w9.heap.size := (by omega); have kchb9_w0 : ∀ o, w9.cell? ⟨w.heap.size, o, none⟩ = _ := fun o => hb9.cell (p := ⟨w.heap.size, o, none⟩) (by go_size); have kfhb9_w0 : ∀ o, w9.frozen? ⟨w.heap.size, o, none⟩ = _ := fun o => hb9.frozen (p := ⟨w.heap.size, o, none⟩) (by go_size); have zhb9_wo0 : wo.heap.size < w9.heap.size := (by omega); have kchb9_wo0 : ∀ o, w9.cell? ⟨wo.heap.size, o, none⟩ = _ := fun o => hb9.cell (p := ⟨wo.heap.size, o, none⟩) (by go_size); have kfhb9_wo0 : ∀ o, w9.frozen? ⟨wo.heap.size, o, none⟩ = _ := fun o => hb9.frozen (p := ⟨wo.heap.size, o, none⟩) (by go_size); clear zzhb9))
                    all_goals
                      go_wp2
                      go_roundw
                      case rel => exact ⟨j + 1, true, _, _, _, _, by omega, by go_num, rfl, Lib.hid (by rw [HC1.out]; exact HA3.out), (by first | (go_simp; done) | (go_simp; rfl)), (by first | (go_simp; done) | (go_simp; rfl)), (by first | (go_simp; done) | (go_simp; rfl)), (by first | (go_simp; done) | (go_simp; rfl)), (by intro i; go_simp), (by first | (go_simp; done) | (go_simp; rfl)), (by first | (go_simp; done) | (go_simp; rfl)), (by first | (go_simp; done) | (go_simp; rfl)), (by first | (go_simp; done) | (go_simp; rfl)), (by intro i; go_simp), (by repeat' (first | (with_reducible exact Below.refl _ _) | (with_reducible assumption) | (with_reducible refine below_drewN ?_ _) | (with_reducible refine Below.drew ?_) | (with_reducible refine Below.alloc ?_ ?_ _) | (with_reducible refine Below.setCell ?_ ?_ _) | (with_reducible refine Below.trans ?_ (Below.mono (by with_reducible assumption) ?_)) | go_size | (dsimp only; omega))), by go_size, by go_size⟩
                      case measure => simp [intOf]; omega
            · have hend : chainV 1 zs = .tuple #[.agg #[.int .i64 p, .int .i64 q, .int .i64 r, .int .i64 t], .int .i64 0] := by
                have hA := HA.out
                simp only [AtC, if_true] at hA
                obtain rfl : j = n := by omega
                rw [HV.out, hA.2]; rfl
              have HN := Lib.hid hend
              clear hend
              go_wp2
              exact bodyPost_ret (v := .tuple #[.agg #[.int .i64 p, .int .i64 q, .int .i64 r, .int .i64 t], .int .i64 0]) (by simp only [results, Try.results12]; go_simp) rfl ⟨congrArg Ending.returned HN.out.symm, (by repeat' (first | (with_reducible exact Below.refl _ _) | (with_reducible assumption) | (with_reducible refine below_drewN ?_ _) | (with_reducible refine Below.drew ?_) | (with_reducible refine Below.alloc ?_ ?_ _) | (with_reducible refine Below.setCell ?_ ?_ _) | (with_reducible refine Below.trans ?_ (Below.mono (by with_reducible assumption) ?_)) | go_size | (dsimp only; omega)))⟩
  · go_enter Try.func12, Try.ntmps12
    go_wp2
    go_loopw [6] (fun i wr => ∃ k : Nat, k ≤ n ∧ i = .int .i64 k ∧ Hid (∀ i, i < k → ent (zs.getD i 0) = true) ∧ wr.cell? ⟨w.heap.size, 0, none⟩ = some (.int .i64 0) ∧ wr.cell? ⟨w.heap.size, 1, none⟩ = some (.int .i64 0) ∧ wr.cell? ⟨w.heap.size, 2, none⟩ = some (.int .i64 0) ∧ wr.cell? ⟨w.heap.size, 3, none⟩ = some (.int .i64 0) ∧ (∀ i, wr.frozen? ⟨w.heap.size, i, none⟩ = false) ∧ Below w.heap.size w wr ∧ w.heap.size < wr.heap.size) (fun i wr => n - (intOf i).toNat)
    case atStart => exact ⟨0, Nat.zero_le _, rfl, Lib.hid (fun i h => by omega), by go_cell, by go_cell, by go_cell, by go_cell, (by intro i; first | (simp; done) | (go_simp; done)), (by repeat' (first | (with_reducible exact Below.refl _ _) | (with_reducible assumption) | (with_reducible refine below_drewN ?_ _) | (with_reducible refine Below.drew ?_) | (with_reducible refine Below.alloc ?_ ?_ _) | (with_reducible refine Below.setCell ?_ ?_ _) | (with_reducible refine Below.trans ?_ (Below.mono (by with_reducible assumption) ?_)) | go_size | (dsimp only; omega))), by simp⟩
    case round =>
      obtain ⟨k, hk, rfl, HG, d0, d1, d2, d3, fw, hB, hw⟩ := hrel
      by_cases hlt : k < n
      · have hltI : (k : Int) < (n : Int) := by omega
        have q1 : wr.cell? ⟨b, o + k, none⟩ = some (.int .i64 (zs.getD k 0)) := by
          rw [hB.cell (p := ⟨b, o + k, none⟩) hb]; exact HR.out k hlt
        cases hin : ent (zs.getD k 0)
        · have HNO : Hid (chainV (-1) zs = .tuple #[.agg #[.int .i64 0, .int .i64 0, .int .i64 0, .int .i64 0], .int .i64 2]) := Lib.hid (chainV_no (fun h => by have := h.2.2.2 k (by rw [HL.out]; exact hlt); rw [hin] at this; cases this))
          have HIN := Lib.hid hin
          clear hin
          generalize zs.getD k 0 = z at *
          go_wp2_with fail
          refine (l01In_c _ _ _ _).mono ?_
          rintro e w' ⟨rfl, rfl⟩
          rw [show (decide (-1000000000 ≤ z) && decide (z ≤ 1000000000)) = false from HIN.out]
          go_wp2
          exact bodyPost_ret (v := .tuple #[.agg #[.int .i64 0, .int .i64 0, .int .i64 0, .int .i64 0], .int .i64 2]) (by simp only [results, Try.results12]; go_simp) rfl ⟨congrArg Ending.returned HNO.out.symm, (by repeat' (first | (with_reducible exact Below.refl _ _) | (with_reducible assumption) | (with_reducible refine below_drewN ?_ _) | (with_reducible refine Below.drew ?_) | (with_reducible refine Below.alloc ?_ ?_ _) | (with_reducible refine Below.setCell ?_ ?_ _) | (with_reducible refine Below.trans ?_ (Below.mono (by with_reducible assumption) ?_)) | go_size | (dsimp only; omega)))⟩
        · have hg' : ∀ i, i < k + 1 → ent (zs.getD i 0) = true := by
            intro i hi
            by_cases e : i = k
            · subst e; exact hin
            · exact HG.out i (by omega)
          have HG' := Lib.hid hg'
          have HIN := Lib.hid hin
          clear hin hg'
          generalize zs.getD k 0 = z at *
          go_wp2_with fail
          refine (l01In_c _ _ _ _).mono ?_
          rintro e w' ⟨rfl, rfl⟩
          rw [show (decide (-1000000000 ≤ z) && decide (z ≤ 1000000000)) = true from HIN.out]
          go_wp2
          go_roundw
          case rel => exact ⟨k + 1, by omega, by go_num, HG', by go_simp, by go_simp, by go_simp, by go_simp, (by intro i; go_simp), (by repeat' (first | (with_reducible exact Below.refl _ _) | (with_reducible assumption) | (with_reducible refine below_drewN ?_ _) | (with_reducible refine Below.drew ?_) | (with_reducible refine Below.alloc ?_ ?_ _) | (with_reducible refine Below.setCell ?_ ?_ _) | (with_reducible refine Below.trans ?_ (Below.mono (by with_reducible assumption) ?_)) | go_size | (dsimp only; omega))), by go_size⟩
          case measure => simp [intOf]; omega
      · have hOK : OkC (-1) zs := ⟨(by decide), by rw [HL.out]; omega, by rw [HL.out]; exact hl, fun i hi => HG.out i (by rw [HL.out] at hi; omega)⟩
        have HV : Hid (chainV (-1) zs = prodV (prodL M4.I (cC (-1) zs n))) := Lib.hid (by rw [chainV_yes hOK, HL.out])
        have HOK := Lib.hid hOK
        have HST := Lib.hid (cC_start (sg := (-1)) (by decide) zs)
        clear hOK
        go_wp2
        obtain ⟨wo, rfl⟩ : ∃ wo : World, wo = wr := ⟨_, rfl⟩
        go_loopw [8, 9] (fun f i wr => ∃ (k : Nat) (bb : Bool) (p q r t : Int), k ≤ n ∧ i = .int .i64 k ∧ f = .bool bb ∧ Hid (AtC bb ⟨p, q, r, t⟩ (cC (-1) zs k)) ∧ wr.cell? ⟨wo.heap.size, 0, none⟩ = some (.int .i64 p) ∧ wr.cell? ⟨wo.heap.size, 1, none⟩ = some (.int .i64 q) ∧ wr.cell? ⟨wo.heap.size, 2, none⟩ = some (.int .i64 r) ∧ wr.cell? ⟨wo.heap.size, 3, none⟩ = some (.int .i64 t) ∧ (∀ i, wr.frozen? ⟨wo.heap.size, i, none⟩ = false) ∧ wr.cell? ⟨w.heap.size, 0, none⟩ = some (.int .i64 0) ∧ wr.cell? ⟨w.heap.size, 1, none⟩ = some (.int .i64 0) ∧ wr.cell? ⟨w.heap.size, 2, none⟩ = some (.int .i64 0) ∧ wr.cell? ⟨w.heap.size, 3, none⟩ = some (.int .i64 0) ∧ (∀ i, wr.frozen? ⟨w.heap.size, i, none⟩ = false) ∧ Below w.heap.size w wr ∧ w.heap.size < wr.heap.size ∧ wo.heap.size < wr.heap.size) (fun f i wr => n - (intOf i).toNat)
        case atStart => exact ⟨0, true, (-1), 0, 0, (-1), Nat.zero_le _, rfl, rfl, Lib.hid (by unfold AtC; rw [if_pos rfl]; exact ⟨by decide, HST.out⟩), by go_cell, by go_cell, by go_cell, by go_cell, (by intro i; first | (simp; done) | (go_simp; done)), by go_simp, by go_simp, by go_simp, by go_simp, (by intro i; go_simp), (by repeat' (first | (with_reducible exact Below.refl _ _) | (with_reducible assumption) | (with_reducible refine below_drewN ?_ _) | (with_reducible refine Below.drew ?_) | (with_reducible refine Below.alloc ?_ ?_ _) | (with_reducible refine Below.setCell ?_ ?_ _) | (with_reducible refine Below.trans ?_ (Below.mono (by with_reducible assumption) ?_)) | go_size | (dsimp only; omega))), by go_size, by go_size⟩
        case round =>
          obtain ⟨j, bb, p, q, r, t, hj, rfl, rfl, HA, c0, c1, c2, c3, fg, d0', d1', d2', d3', fw', hB', hw', hg'⟩ := hrel
          clear d0 d1 d2 d3 fw hB
          have hne : ¬ w.heap.size = wo.heap.size := by omega
          have hne' : ¬ wo.heap.size = w.heap.size := by omega
          cases bb
          · have hnone : chainV (-1) zs = .tuple #[.agg #[.int .i64 0, .int .i64 0, .int .i64 0, .int .i64 0], .int .i64 3] := by
              have := HA.out
              simp only [AtC] at this
              rw [HV.out, cC_none _ _ hj this]; rfl
            have HN := Lib.hid hnone
            clear hnone
            by_cases hlt2 : j < n
            · go_wp2
              exact bodyPost_ret (v := .tuple #[.agg #[.int .i64 0, .int .i64 0, .int .i64 0, .int .i64 0], .int .i64 3]) (by simp only [results, Try.results12]; go_simp) rfl ⟨congrArg Ending.returned HN.out.symm, (by repeat' (first | (with_reducible exact Below.refl _ _) | (with_reducible assumption) | (with_reducible refine below_drewN ?_ _) | (with_reducible refine Below.drew ?_) | (with_reducible refine Below.alloc ?_ ?_ _) | (with_reducible refine Below.setCell ?_ ?_ _) | (with_reducible refine Below.trans ?_ (Below.mono (by with_reducible assumption) ?_)) | go_size | (dsimp only; omega)))⟩
            · go_wp2
              exact bodyPost_ret (v := .tuple #[.agg #[.int .i64 0, .int .i64 0, .int .i64 0, .int .i64 0], .int .i64 3]) (by simp only [results, Try.results12]; go_simp) rfl ⟨congrArg Ending.returned HN.out.symm, (by repeat' (first | (with_reducible exact Below.refl _ _) | (with_reducible assumption) | (with_reducible refine below_drewN ?_ _) | (with_reducible refine Below.drew ?_) | (with_reducible refine Below.alloc ?_ ?_ _) | (with_reducible refine Below.setCell ?_ ?_ _) | (with_reducible refine Below.trans ?_ (Below.mono (by with_reducible assumption) ?_)) | go_size | (dsimp only; omega)))⟩
          · by_cases hlt2 : j < n
            · have hlt3 : (j : Int) < (n : Int) := by omega
              have hjl : j < zs.length := by rw [HL.out]; exact hlt2
              have q1 : wr.cell? ⟨b, o + j, none⟩ = some (.int .i64 (zs.getD j 0)) := by
                rw [hB'.cell (p := ⟨b, o + j, none⟩) hb]; exact HR.out j hlt2
              have HE := Lib.hid (mT_ent (HOK.out.2.2.2 j hjl))
              have HME : Hid (M4.ent ⟨p, q, r, t⟩ = true) := Lib.hid (by have := HA.out; simp only [AtC, if_true] at this; exact this.1)
              have hcc : cC (-1) zs (j + 1) = cC (-1) zs j ++ (if j = 0 then [mT (zs.getD j 0)] else [mS, mT (zs.getD j 0)]) := rfl
              have HCC := Lib.hid hcc
              clear hjl hcc
              generalize zs.getD j 0 = z at *
              have hbl : b < wr.heap.size := by omega
              have hbn : ¬ b = wo.heap.size := by omega
              have hbn' : ¬ b = w.heap.size := by omega
              by_cases hj0 : j = 0
              · have hj1 : ¬ (0 : Int) < (j : Int) := by omega
                have hc1 : cC (-1) zs (j + 1) = cC (-1) zs j ++ [mT z] := by rw [HCC.out, if_pos hj0]
                have HC1 := Lib.hid hc1
                clear hc1 HCC
                subst hj0
                rw [Nat.add_zero] at q1
                cases he : M4.ent (M4.mul ⟨p, q, r, t⟩ (mT z))
                · have HNN := Lib.hid (HA.out.stop he)
                  have HE2 := Lib.hid he
                  clear he
                  go_wp2
                  go_region_with ((go_at_call 44; refine (l01Times_no ⟨p, q, r, t⟩ (mT z) _ HME.out HE.out HE2.out).mono ?_; rintro e w9 ⟨rfl, hb9⟩; have zzhb9 := hb9.size; (try simp at zzhb9); have zhb9_w0 : w.heap.size < w9.heap.size := (by omega); have kchb9_w0 : ∀ o, w9.cell? ⟨w.heap.size, o, none⟩ = _ := fun o => hb9.cell (p := ⟨w.heap.size, o, none⟩) (by go_size); have kfhb9_w0 : ∀ o, w9.frozen? ⟨w.heap.size, o, none⟩ = _ := fun o => hb9.frozen (p := ⟨w.heap.size, o, none⟩) (by go_size); have zhb9_wo0 : wo.heap.size < w9.heap.size := (by omega); have kchb9_wo0 : ∀ o, w9.cell? ⟨wo.heap.size, o, none⟩ = _ := fun o => hb9.cell (p := ⟨wo.heap.size, o, none⟩) (by go_size); have kfhb9_wo0 : ∀ o, w9.frozen? ⟨wo.heap.size, o, none⟩ = _ := fun o => hb9.frozen (p := ⟨wo.heap.size, o, none⟩) (by go_size); clear zzhb9))
                  all_goals
                    go_wp2
                    go_roundw
                    case rel => exact ⟨0 + 1, false, 0, 0, 0, 0, by omega, by go_num, rfl, Lib.hid (by rw [HC1.out]; exact AtC.none HNN.out), (by first | (go_simp; done) | (go_simp; rfl)), (by first | (go_simp; done) | (go_simp; rfl)), (by first | (go_simp; done) | (go_simp; rfl)), (by first | (go_simp; done) | (go_simp; rfl)), (by intro i; go_simp), (by first | (go_simp; done) | (go_simp; rfl)), (by first | (go_simp; done) | (go_simp; rfl)), (by first | (go_simp; done) | (go_simp; rfl)), (by first | (go_simp; done) | (go_simp; rfl)), (by intro i; go_simp), (by repeat' (first | (with_reducible exact Below.refl _ _) | (with_reducible assumption) | (with_reducible refine below_drewN ?_ _) | (with_reducible refine Below.drew ?_) | (with_reducible refine Below.alloc ?_ ?_ _) | (with_reducible refine Below.setCell ?_ ?_ _) | (with_reducible refine Below.trans ?_ (Below.mono (by with_reducible assumption) ?_)) | go_size | (dsimp only; omega))), by go_size, by go_size⟩
                    case measure => simp [intOf]; omega
                · have HA3 := Lib.hid (HA.out.next he)
                  have HE2 := Lib.hid he
                  clear he
                  have hMV : (M4.mul ⟨p, q, r, t⟩ (mT z)).v = .agg #[.int .i64 ((M4.mul ⟨p, q, r, t⟩ (mT z)).a), .int .i64 ((M4.mul ⟨p, q, r, t⟩ (mT z)).b), .int .i64 ((M4.mul ⟨p, q, r, t⟩ (mT z)).c), .int .i64 ((M4.mul ⟨p, q, r, t⟩ (mT z)).d)] := rfl
                  have HMV := Lib.hid hMV
                  clear hMV
                  go_wp2
                  go_region_with ((go_at_call 44; refine (l01Times_yes ⟨p, q, r, t⟩ (mT z) _ HME.out HE.out HE2.out).mono ?_; rintro e w9 ⟨rfl, hb9⟩; rw [HMV.out]; have zzhb9 := hb9.size; (try simp at zzhb9); have zhb9_w0 : w.heap.size < w9.heap.size := (by omega); have kchb9_w0 : ∀ o, w9.cell? ⟨w.heap.size, o, none⟩ = _ := fun o => hb9.cell (p := ⟨w.heap.size, o, none⟩) (by go_size); have kfhb9_w0 : ∀ o, w9.frozen? ⟨w.heap.size, o, none⟩ = _ := fun o => hb9.frozen (p := ⟨w.heap.size, o, none⟩) (by go_size); have zhb9_wo0 : wo.heap.size < w9.heap.size := (by omega); have kchb9_wo0 : ∀ o, w9.cell? ⟨wo.heap.size, o, none⟩ = _ := fun o => hb9.cell (p := ⟨wo.heap.size, o, none⟩) (by go_size); have kfhb9_wo0 : ∀ o, w9.frozen? ⟨wo.heap.size, o, none⟩ = _ := fun o => hb9.frozen (p := ⟨wo.heap.size, o, none⟩) (by go_size); clear zzhb9))
                  all_goals
                    go_wp2
                    go_roundw
                    case rel => exact ⟨0 + 1, true, _, _, _, _, by omega, by go_num, rfl, Lib.hid (by rw [HC1.out]; exact HA3.out), (by first | (go_simp; done) | (go_simp; rfl)), (by first | (go_simp; done) | (go_simp; rfl)), (by first | (go_simp; done) | (go_simp; rfl)), (by first | (go_simp; done) | (go_simp; rfl)), (by intro i; go_simp), (by first | (go_simp; done) | (go_simp; rfl)), (by first | (go_simp; done) | (go_simp; rfl)), (by first | (go_simp; done) | (go_simp; rfl)), (by first | (go_simp; done) | (go_simp; rfl)), (by intro i; go_simp), (by repeat' (first | (with_reducible exact Below.refl _ _) | (with_reducible assumption) | (with_reducible refine below_drewN ?_ _) | (with_reducible refine Below.drew ?_) | (with_reducible refine Below.alloc ?_ ?_ _) | (with_reducible refine Below.setCell ?_ ?_ _) | (with_reducible refine Below.trans ?_ (Below.mono (by with_reducible assumption) ?_)) | go_size | (dsimp only; omega))), by go_size, by go_size⟩
                    case measure => simp [intOf]; omega
              · have hj1 : (0 : Int) < (j : Int) := by omega
                have hc1 : cC (-1) zs (j + 1) = (cC (-1) zs j ++ [mS]) ++ [mT z] := by rw [HCC.out, if_neg hj0]; simp
                have HC1 := Lib.hid hc1
                clear hc1 HCC
                cases he : M4.ent (M4.mul ⟨p, q, r, t⟩ mS)
                · have HNN := Lib.hid (none_more (l2 := [mT z]) (HA.out.stop he))
                  have HE2 := Lib.hid he
                  clear he
                  go_wp2_with fail
                  refine (l01Times_no ⟨p, q, r, t⟩ mS _ HME.out (by decide) HE2.out).mono ?_
                  rintro e w4 ⟨rfl, b4⟩
                  have zzb4 := b4.size; (try simp at zzb4); have zb4_w0 : w.heap.size < w4.heap.size := (by omega); have kcb4_w0 : ∀ o, w4.cell? ⟨w.heap.size, o, none⟩ = _ := fun o => b4.cell (p := ⟨w.heap.size, o, none⟩) (by go_size); have kfb4_w0 : ∀ o, w4.frozen? ⟨w.heap.size, o, none⟩ = _ := fun o => b4.frozen (p := ⟨w.heap.size, o, none⟩) (by go_size); have zb4_wo0 : wo.heap.size < w4.heap.size := (by omega); have kcb4_wo0 : ∀ o, w4.cell? ⟨wo.heap.size, o, none⟩ = _ := fun o => b4.cell (p := ⟨wo.heap.size, o, none⟩) (by go_size); have kfb4_wo0 : ∀ o, w4.frozen? ⟨wo.heap.size, o, none⟩ = _ := fun o => b4.frozen (p := ⟨wo.heap.size, o, none⟩) (by go_size); clear zzb4
                  go_wp2
                  go_roundw
                  case rel => exact ⟨j + 1, false, 0, 0, 0, 0, by omega, by go_num, rfl, Lib.hid (by rw [HC1.out]; exact AtC.none HNN.out), (by first | (go_simp; done) | (go_simp; rfl)), (by first | (go_simp; done) | (go_simp; rfl)), (by first | (go_simp; done) | (go_simp; rfl)), (by first | (go_simp; done) | (go_simp; rfl)), (by intro i; go_simp), (by first | (go_simp; done) | (go_simp; rfl)), (by first | (go_simp; done) | (go_simp; rfl)), (by first | (go_simp; done) | (go_simp; rfl)), (by first | (go_simp; done) | (go_simp; rfl)), (by intro i; go_simp), (by repeat' (first | (with_reducible exact Below.refl _ _) | (with_reducible assumption) | (with_reducible refine below_drewN ?_ _) | (with_reducible refine Below.drew ?_) | (with_reducible refine Below.alloc ?_ ?_ _) | (with_reducible refine Below.setCell ?_ ?_ _) | (with_reducible refine Below.trans ?_ (Below.mono (by with_reducible assumption) ?_)) | go_size | (dsimp only; omega))), by go_size, by go_size⟩
                  case measure => simp [intOf]; omega
                · have HA2 := Lib.hid (HA.out.next he)
                  have HE2 := Lib.hid he
                  clear he
                  go_wp2_with fail
                  refine (l01Times_yes ⟨p, q, r, t⟩ mS _ HME.out (by decide) HE2.out).mono ?_
                  rintro e w4 ⟨rfl, b4⟩
                  have zzb4 := b4.size; (try simp at zzb4); have zb4_w0 : w.heap.size < w4.heap.size := (by omega); have kcb4_w0 : ∀ o, w4.cell? ⟨w.heap.size, o, none⟩ = _ := fun o => b4.cell (p := ⟨w.heap.size, o, none⟩) (by go_size); have kfb4_w0 : ∀ o, w4.frozen? ⟨w.heap.size, o, none⟩ = _ := fun o => b4.frozen (p := ⟨w.heap.size, o, none⟩) (by go_size); have zb4_wo0 : wo.heap.size < w4.heap.size := (by omega); have kcb4_wo0 : ∀ o, w4.cell? ⟨wo.heap.size, o, none⟩ = _ := fun o => b4.cell (p := ⟨wo.heap.size, o, none⟩) (by go_size); have kfb4_wo0 : ∀ o, w4.frozen? ⟨wo.heap.size, o, none⟩ = _ := fun o => b4.frozen (p := ⟨wo.heap.size, o, none⟩) (by go_size); clear zzb4
                  have kb4 : ∀ o, w4.cell? ⟨b, o, none⟩ = wr.cell? ⟨b, o, none⟩ := fun o => b4.cell (p := ⟨b, o, none⟩) hbl
                  have hbl4 : b < w4.heap.size := Nat.lt_of_lt_of_le hbl b4.size
                  have hne4 : ¬ wo.heap.size = b := fun e => hbn e.symm
                  have HME2 := Lib.hid HE2.out
                  generalize hmm : M4.mul ⟨p, q, r, t⟩ mS = mm at *
                  obtain ⟨p2, q2, r2, t2⟩ := mm
                  have hMV : (M4.mk p2 q2 r2 t2).v = .agg #[.int .i64 p2, .int .i64 q2, .int .i64 r2, .int .i64 t2] := rfl
                  rw [hMV]
                  clear hmm hMV HE2
                  go_upto_region 15 with fail
                  generalize hw5 : World.setCell _ _ _ = w5
                  have e0 : w5.cell? ⟨wo.heap.size, 0, none⟩ = some (.int .i64 p2) := by subst hw5; go_simp
                  have e1 : w5.cell? ⟨wo.heap.size, 1, none⟩ = some (.int .i64 q2) := by subst hw5; go_simp
                  have e2 : w5.cell? ⟨wo.heap.size, 2, none⟩ = some (.int .i64 r2) := by subst hw5; go_simp
                  have e3 : w5.cell? ⟨wo.heap.size, 3, none⟩ = some (.int .i64 t2) := by subst hw5; go_simp
                  have ef : ∀ i, w5.frozen? ⟨wo.heap.size, i, none⟩ = false := by subst hw5; intro i; go_simp
                  have h0 : w5.cell? ⟨w.heap.size, 0, none⟩ = some (.int .i64 0) := by subst hw5; go_simp
                  have h1 : w5.cell? ⟨w.heap.size, 1, none⟩ = some (.int .i64 0) := by subst hw5; go_simp
                  have h2 : w5.cell? ⟨w.heap.size, 2, none⟩ = some (.int .i64 0) := by subst hw5; go_simp
                  have h3 : w5.cell? ⟨w.heap.size, 3, none⟩ = some (.int .i64 0) := by subst hw5; go_simp
                  have hf : ∀ i, w5.frozen? ⟨w.heap.size, i, none⟩ = false := by subst hw5; intro i; go_simp
                  have hl : w5.cell? ⟨b, o + j, none⟩ = some (.int .i64 z) := by subst hw5; (repeat (with_reducible refine keep_set ?_ (by dsimp only; omega))); rw [kb4]; exact q1
                  have hB5 : Below w.heap.size w w5 := by subst hw5; exact (by repeat' (first | (with_reducible exact Below.refl _ _) | (with_reducible assumption) | (with_reducible refine below_drewN ?_ _) | (with_reducible refine Below.drew ?_) | (with_reducible refine Below.alloc ?_ ?_ _) | (with_reducible refine Below.setCell ?_ ?_ _) | (with_reducible refine Below.trans ?_ (Below.mono (by with_reducible assumption) ?_)) | go_size | (dsimp only; omega)))
                  have hs5 : w.heap.size < w5.heap.size := by subst hw5; go_size
                  have hs5' : wo.heap.size < w5.heap.size := by subst hw5; go_size
                  have hs5b : b < w5.heap.size := by subst hw5; go_size
                  clear hw5 kb4 kcb4_w0 kfb4_w0 kcb4_wo0 kfb4_wo0 b4 c0 c1 c2 c3 fg d0' d1' d2' d3' fw' hB' q1
                  cases he : M4.ent (M4.mul ⟨p2, q2, r2, t2⟩ (mT z))
                  · have HNN := Lib.hid (HA2.out.stop he)
                    have HE2 := Lib.hid he
                    clear he
                    go_region_with ((go_at_call 44; refine (l01Times_no ⟨p2, q2, r2, t2⟩ (mT z) _ HME2.out HE.out HE2.out).mono ?_; rintro e w9 ⟨rfl, hb9⟩; have zzhb9 := hb9.size; (try simp at zzhb9); have zhb9_w0 : w.heap.size < w9.heap.size := (by omega); have kchb9_w0 : ∀ o, w9.cell? ⟨w.heap.size, o, none⟩ = _ := fun o => hb9.cell (p := ⟨w.heap.size, o, none⟩) (by go_size); have kfhb9_w0 : ∀ o, w9.frozen? ⟨w.heap.size, o, none⟩ = _ := fun o => hb9.frozen (p := ⟨w.heap.size, o, none⟩) (by go_size); have zhb9_wo0 : wo.heap.size < w9.heap.size := (by omega); have kchb9_wo0 : ∀ o, w9.cell? ⟨wo.heap.size, o, none⟩ = _ := fun o => hb9.cell (p := ⟨wo.heap.size, o, none⟩) (by go_size); have kfhb9_wo0 : ∀ o, w9.frozen? ⟨wo.heap.size, o, none⟩ = _ := fun o => hb9.frozen (p := ⟨wo.heap.size, o, none⟩) (by go_size); clear zzhb9))
                    all_goals
                      go_wp2
                      go_roundw
                      case rel => exact ⟨j + 1, false, 0, 0, 0, 0, by omega, by go_num, rfl, Lib.hid (by rw [HC1.out]; exact AtC.none HNN.out), (by first | (go_simp; done) | (go_simp; rfl)), (by first | (go_simp; done) | (go_simp; rfl)), (by first | (go_simp; done) | (go_simp; rfl)), (by first | (go_simp; done) | (go_simp; rfl)), (by intro i; go_simp), (by first | (go_simp; done) | (go_simp; rfl)), (by first | (go_simp; done) | (go_simp; rfl)), (by first | (go_simp; done) | (go_simp; rfl)), (by first | (go_simp; done) | (go_simp; rfl)), (by intro i; go_simp), (by repeat' (first | (with_reducible exact Below.refl _ _) | (with_reducible assumption) | (with_reducible refine below_drewN ?_ _) | (with_reducible refine Below.drew ?_) | (with_reducible refine Below.alloc ?_ ?_ _) | (with_reducible refine Below.setCell ?_ ?_ _) | (with_reducible refine Below.trans ?_ (Below.mono (by with_reducible assumption) ?_)) | go_size | (dsimp only; omega))), by go_size, by go_size⟩
                      case measure => simp [intOf]; omega
                  · have HA3 := Lib.hid (HA2.out.next he)
                    have HE2 := Lib.hid he
                    clear he
                    have hMV : (M4.mul ⟨p2, q2, r2, t2⟩ (mT z)).v = .agg #[.int .i64 ((M4.mul ⟨p2, q2, r2, t2⟩ (mT z)).a), .int .i64 ((M4.mul ⟨p2, q2, r2, t2⟩ (mT z)).b), .int .i64 ((M4.mul ⟨p2, q2, r2, t2⟩ (mT z)).c), .int .i64 ((M4.mul ⟨p2, q2, r2, t2⟩ (mT z)).d)] := rfl
                    have HMV := Lib.hid hMV
                    clear hMV
                    go_region_with ((go_at_call 44; refine (l01Times_yes ⟨p2, q2, r2, t2⟩ (mT z) _ HME2.out HE.out HE2.out).mono ?_; rintro e w9 ⟨rfl, hb9⟩; rw [HMV.out]; have zzhb9 := hb9.size; (try simp at zzhb9); have zhb9_w0 : w.heap.size < w9.heap.size := (by omega); have kchb9_w0 : ∀ o, w9.cell? ⟨w.heap.size, o, none⟩ = _ := fun o => hb9.cell (p := ⟨w.heap.size, o, none⟩) (by go_size); have kfhb9_w0 : ∀ o, w9.frozen? ⟨w.heap.size, o, none⟩ = _ := fun o => hb9.frozen (p := ⟨w.heap.size, o, none⟩) (by go_size); have zhb9_wo0 : wo.heap.size < w9.heap.size := (by omega); have kchb9_wo0 : ∀ o, w9.cell? ⟨wo.heap.size, o, none⟩ = _ := fun o => hb9.cell (p := ⟨wo.heap.size, o, none⟩) (by go_size); have kfhb9_wo0 : ∀ o, w9.frozen? ⟨wo.heap.size, o, none⟩ = _ := fun o => hb9.frozen (p := ⟨wo.heap.size, o, none⟩) (by go_size); clear zzhb9))
                    all_goals
                      go_wp2
                      go_roundw
                      case rel => exact ⟨j + 1, true, _, _, _, _, by omega, by go_num, rfl, Lib.hid (by rw [HC1.out]; exact HA3.out), (by first | (go_simp; done) | (go_simp; rfl)), (by first | (go_simp; done) | (go_simp; rfl)), (by first | (go_simp; done) | (go_simp; rfl)), (by first | (go_simp; done) | (go_simp; rfl)), (by intro i; go_simp), (by first | (go_simp; done) | (go_simp; rfl)), (by first | (go_simp; done) | (go_simp; rfl)), (by first | (go_simp; done) | (go_simp; rfl)), (by first | (go_simp; done) | (go_simp; rfl)), (by intro i; go_simp), (by repeat' (first | (with_reducible exact Below.refl _ _) | (with_reducible assumption) | (with_reducible refine below_drewN ?_ _) | (with_reducible refine Below.drew ?_) | (with_reducible refine Below.alloc ?_ ?_ _) | (with_reducible refine Below.setCell ?_ ?_ _) | (with_reducible refine Below.trans ?_ (Below.mono (by with_reducible assumption) ?_)) | go_size | (dsimp only; omega))), by go_size, by go_size⟩
                      case measure => simp [intOf]; omega
            · have hend : chainV (-1) zs = .tuple #[.agg #[.int .i64 p, .int .i64 q, .int .i64 r, .int .i64 t], .int .i64 0] := by
                have hA := HA.out
                simp only [AtC, if_true] at hA
                obtain rfl : j = n := by omega
                rw [HV.out, hA.2]; rfl
              have HN := Lib.hid hend
              clear hend
              go_wp2
              exact bodyPost_ret (v := .tuple #[.agg #[.int .i64 p, .int .i64 q, .int .i64 r, .int .i64 t], .int .i64 0]) (by simp only [results, Try.results12]; go_simp) rfl ⟨congrArg Ending.returned HN.out.symm, (by repeat' (first | (with_reducible exact Below.refl _ _) | (with_reducible assumption) | (with_reducible refine below_drewN ?_ _) | (with_reducible refine Below.drew ?_) | (with_reducible refine Below.alloc ?_ ?_ _) | (with_reducible refine Below.setCell ?_ ?_ _) | (with_reducible refine Below.trans ?_ (Below.mono (by with_reducible assumption) ?_)) | go_size | (dsimp only; omega)))⟩
end Go.Proofs.Ytgpnfjpnbchglaa
