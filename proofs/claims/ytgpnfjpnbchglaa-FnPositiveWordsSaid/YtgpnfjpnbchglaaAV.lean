/- MatrixOfRuns. -/
import Derived.Test.YtgpnfjpnbchglaaAQ
import Derived.Test.YtgpnfjpnbchglaaAU
namespace Go.Proofs.Ytgpnfjpnbchglaa
open Go.RowKit
set_option linter.unusedVariables false
set_option linter.unusedSimpArgs false
/-- a run stands well -/
def okR (zs : List Int) (i : Nat) : Prop := (0 ≤ zs.getD i 0 ∧ zs.getD i 0 ≤ 1000000000) ∧ (zs.getD i 0 = 0 → i = 0 ∧ zs.length ≠ 1)
def OkR (zs : List Int) : Prop := zs.length ≤ 100 ∧ ∀ i, i < zs.length → okR zs i
def wOk (k : Nat) (z : Int) : Bool := decide ((if k = 0 then 0 else 1) ≤ z) && decide (z ≤ 1000000000)
theorem wOk_iff {k : Nat} {z : Int} : wOk k z = true ↔ ((if k = 0 then 0 else 1) ≤ z ∧ z ≤ 1000000000) := by simp [wOk]
theorem OkR_of {zs : List Int} (hl : zs.length ≤ 100) (h1 : ¬ (zs.length = 1 ∧ zs.getD 0 0 = 0)) (h : ∀ i, i < zs.length → wOk i (zs.getD i 0) = true) : OkR zs := by
  refine ⟨hl, fun i hi => ?_⟩
  have := wOk_iff.mp (h i hi)
  by_cases hi0 : i = 0
  · subst hi0
    rw [if_pos rfl] at this
    exact ⟨this, fun e => ⟨rfl, fun e1 => h1 ⟨e1, e⟩⟩⟩
  · rw [if_neg hi0] at this
    exact ⟨by omega, fun e => by omega⟩
theorem OkR_to {zs : List Int} (h : OkR zs) : ¬ (zs.length = 1 ∧ zs.getD 0 0 = 0) ∧ ∀ i, i < zs.length → wOk i (zs.getD i 0) = true := by
  refine ⟨fun ⟨e1, e2⟩ => ((h.2 0 (by omega)).2 e2).2 e1, fun i hi => wOk_iff.mpr ?_⟩
  have := h.2 i hi
  by_cases hi0 : i = 0
  · rw [if_pos hi0]; exact this.1
  · rw [if_neg hi0]
    have h2 : zs.getD i 0 ≠ 0 := fun e => hi0 (this.2 e).1
    have := this.1
    omega
def mR (i : Nat) (z : Int) : M4 := if i % 2 = 0 then ⟨1, z, 0, 1⟩ else ⟨1, 0, z, 1⟩
def msR (zs : List Int) : List M4 := zs.mapIdx mR
theorem msR_len (zs : List Int) : (msR zs).length = zs.length := by simp [msR]
theorem msR_at (zs : List Int) (k : Nat) (h : k < zs.length) : (msR zs)[k]? = some (mR k (zs.getD k 0)) := by
  simp [msR, List.getElem?_mapIdx, List.getD, h]
theorem msR_take (zs : List Int) (k : Nat) (h : k < zs.length) : (msR zs).take (k + 1) = (msR zs).take k ++ [mR k (zs.getD k 0)] := by
  have := msR_at zs k h
  rw [List.take_add_one, this]; rfl
theorem mR_ent (i : Nat) (z : Int) (h : 0 ≤ z ∧ z ≤ 1000000000) : (mR i z).ent = true := by
  unfold mR
  split
  · exact ents4 (by omega) (by omega) (by omega) (by omega)
  · exact ents4 (by omega) (by omega) (by omega) (by omega)
theorem msR_ent {zs : List Int} (h : OkR zs) : ∀ m ∈ msR zs, m.ent = true := by
  intro m hm
  obtain ⟨k, hk, rfl⟩ := List.mem_iff_getElem.mp hm
  rw [msR_len] at hk
  have := msR_at zs k hk
  rw [List.getElem?_eq_getElem (by rw [msR_len]; exact hk)] at this
  rw [Option.some.inj this]
  exact mR_ent _ _ (h.2 k hk).1
open Classical in
/-- what MatrixOfRuns answers -/
noncomputable def runsV (zs : List Int) : Value := if OkR zs then prodV (prodL M4.I (msR zs)) else .tuple #[.agg #[.int .i64 0, .int .i64 0, .int .i64 0, .int .i64 0], .int .i64 2]
theorem runsV_yes {zs : List Int} (h : OkR zs) : runsV zs = prodV (prodL M4.I (msR zs)) := if_pos h
theorem runsV_no {zs : List Int} (h : ¬ OkR zs) : runsV zs = .tuple #[.agg #[.int .i64 0, .int .i64 0, .int .i64 0, .int .i64 0], .int .i64 2] := if_neg h
theorem runsV_form (zs : List Int) : ∃ a b c d e : Int, runsV zs = .tuple #[.agg #[.int .i64 a, .int .i64 b, .int .i64 c, .int .i64 d], .int .i64 e] := by
  unfold runsV
  split
  · exact prodV_form _
  · exact ⟨_, _, _, _, _, rfl⟩
set_option maxRecDepth 100000 in
set_option maxHeartbeats 8000000 in
theorem MatrixOfRuns_row (b o c : Nat) (zs : List Int) (w : World) (hb : b < w.heap.size) (hr : RowI w b o zs) (hm : zs.length ≤ 1000000000) (hn0 : zs ≠ []) :
    Calls Try.prog 25 #[.slice (some ⟨b, o, none⟩) zs.length c] w fun e w' => e = .returned (runsV zs) ∧ Below w.heap.size w w' := by
  obtain ⟨i0, hi, hz0, hz1, hz2⟩ := info_parts info_M
  have hown0 := own_new (w.alloc (Obj.cells #[.int .i64 0, .int .i64 0, .int .i64 0, .int .i64 0] 25)) (w.heap.size + 1) 25 4 (by simp)
  simp only [World.size_alloc] at hown0
  have hpos : 0 < zs.length := List.length_pos_iff.mpr hn0
  have HR : Hid (∀ k, k < zs.length → w.cell? ⟨b, o + k, none⟩ = some (.int .i64 (zs.getD k 0))) := Lib.hid hr
  have hz00 := HR.out 0 hpos
  simp only [Nat.add_zero] at hz00
  generalize hn : zs.length = n at *
  have HL := Lib.hid hn
  clear hn hr hn0
  by_cases hl : n ≤ 100
  case neg =>
    have hn100 : (100 < (n : Int)) := by omega
    have hno : runsV zs = .tuple #[.agg #[.int .i64 0, .int .i64 0, .int .i64 0, .int .i64 0], .int .i64 2] := runsV_no (fun h => by have := h.1; rw [HL.out] at this; omega)
    have HNO := Lib.hid hno
    clear hown0 hno
    go_enter Try.func25, Try.ntmps25
    go_wp2
    exact bodyPost_ret (v := .tuple #[.agg #[.int .i64 0, .int .i64 0, .int .i64 0, .int .i64 0], .int .i64 2]) (by simp only [results, Try.results25]; go_simp) rfl ⟨congrArg Ending.returned HNO.out.symm, (by repeat' (first | (with_reducible exact Below.refl _ _) | (with_reducible assumption) | (with_reducible refine below_drewN ?_ _) | (with_reducible refine Below.drew ?_) | (with_reducible refine Below.alloc ?_ ?_ _) | (with_reducible refine Below.setCell ?_ ?_ _) | (with_reducible refine Below.trans ?_ (Below.mono (by with_reducible assumption) ?_)) | go_size | (dsimp only; omega)))⟩
  case pos =>
    have hn100 : ¬ (100 < (n : Int)) := by omega
    have hnp : (0 : Int) < (n : Int) := by omega
    by_cases hc1 : n = 1
    case pos =>
      have hc2 : ((n : Int) == 1) = true := by simp [hc1]
      have hc3 : (n : Int) = 1 := by omega
      by_cases hy0 : zs.getD 0 0 = 0
      case pos =>
        have hno : runsV zs = .tuple #[.agg #[.int .i64 0, .int .i64 0, .int .i64 0, .int .i64 0], .int .i64 2] := runsV_no (fun h => (OkR_to h).1 ⟨by rw [HL.out]; exact hc1, hy0⟩)
        have HNO := Lib.hid hno
        rw [hy0] at hz00
        clear hown0 hno hy0
        subst hc1
        go_enter Try.func25, Try.ntmps25
        go_wp2
        exact bodyPost_ret (v := .tuple #[.agg #[.int .i64 0, .int .i64 0, .int .i64 0, .int .i64 0], .int .i64 2]) (by simp only [results, Try.results25]; go_simp) rfl ⟨congrArg Ending.returned HNO.out.symm, (by repeat' (first | (with_reducible exact Below.refl _ _) | (with_reducible assumption) | (with_reducible refine below_drewN ?_ _) | (with_reducible refine Below.drew ?_) | (with_reducible refine Below.alloc ?_ ?_ _) | (with_reducible refine Below.setCell ?_ ?_ _) | (with_reducible refine Below.trans ?_ (Below.mono (by with_reducible assumption) ?_)) | go_size | (dsimp only; omega)))⟩
      case neg =>
        obtain ⟨P, hP⟩ : ∃ P : Prop, P = ¬ (zs.length = 1 ∧ zs.getD 0 0 = 0) := ⟨_, rfl⟩
        have HNZ0 : P := by rw [hP]; exact fun h => hy0 h.2
        generalize hyy : zs.getD 0 0 = y at hz00 hy0
        have hy1 : (y == 0) = false := by simpa using hy0
        clear hyy
        have HNZ : Hid (¬ (zs.length = 1 ∧ zs.getD 0 0 = 0)) := Lib.hid (by rw [← hP]; exact HNZ0)
        clear hP HNZ0
        subst hc1
        go_enter Try.func25, Try.ntmps25
        go_wp2
        go_loopw [4, 25] (fun v i wr => ∃ (k : Nat), k ≤ 1 ∧ i = .int .i64 k ∧ v ≠ .slice none 0 0 ∧ Hid (∀ i, i < k → wOk i (zs.getD i 0) = true) ∧ wr.ownsRow (w.heap.size + 1) 25 4 v k (cells4 ((msR zs).take k)) ∧ wr.cell? ⟨w.heap.size, 0, none⟩ = some (.int .i64 0) ∧ wr.cell? ⟨w.heap.size, 1, none⟩ = some (.int .i64 0) ∧ wr.cell? ⟨w.heap.size, 2, none⟩ = some (.int .i64 0) ∧ wr.cell? ⟨w.heap.size, 3, none⟩ = some (.int .i64 0) ∧ (∀ i, wr.frozen? ⟨w.heap.size, i, none⟩ = false) ∧ Below w.heap.size w wr ∧ w.heap.size + 1 < wr.heap.size) (fun v i wr => 1 - (intOf i).toNat)
        case atStart => exact ⟨0, Nat.zero_le _, rfl, by simp, Lib.hid (fun i h => by omega), by simpa [cells4] using hown0, by go_cell, by go_cell, by go_cell, by go_cell, (by intro i; first | (simp; done) | (go_simp; done)), (by repeat' (first | (with_reducible exact Below.refl _ _) | (with_reducible assumption) | (with_reducible refine below_drewN ?_ _) | (with_reducible refine Below.drew ?_) | (with_reducible refine Below.alloc ?_ ?_ _) | (with_reducible refine Below.setCell ?_ ?_ _) | (with_reducible refine Below.trans ?_ (Below.mono (by with_reducible assumption) ?_)) | go_size | (dsimp only; omega))), by simp⟩
        case round =>
          obtain ⟨k, hk, rfl, hnn, HG, hown, d0, d1, d2, d3, fw, hB, hsz⟩ := hrel
          clear hown0 hz00
          have hw : w.heap.size < wr.heap.size := by omega
          by_cases hlt : k < 1
          · have hltI : (k : Int) < (1 : Int) := by omega
            have q1 : wr.cell? ⟨b, o + k, none⟩ = some (.int .i64 (zs.getD k 0)) := by
              rw [hB.cell (p := ⟨b, o + k, none⟩) hb]; exact HR.out k hlt
            have htk := msR_take zs k (by rw [HL.out]; exact hlt)
            have hlo : (if k = 0 then (0 : Int) else 1) = min (k : Int) 1 := by split <;> omega
            cases hg : wOk k (zs.getD k 0)
            · have hno : runsV zs = .tuple #[.agg #[.int .i64 0, .int .i64 0, .int .i64 0, .int .i64 0], .int .i64 2] := runsV_no (fun h => by have := (OkR_to h).2 k (by rw [HL.out]; exact hlt); rw [hg] at this; simp at this)
              have HNO := Lib.hid hno
              have HLO := Lib.hid hlo
              have HG0 := Lib.hid hg
              clear hno hlo hg htk
              generalize zs.getD k 0 = z at *
              go_wp2_with fail
              all_goals
                refine (within_c _ _ _ _).mono ?_
                rintro e w' ⟨rfl, rfl⟩
                rw [show (decide (_ ≤ z) && decide (z ≤ 1000000000)) = false from by have h0 := HG0.out; unfold wOk at h0; rw [HLO.out] at h0; simp only [Bool.and_eq_false_iff, decide_eq_false_iff_not] at h0 ⊢; omega]
                go_wp2
                exact bodyPost_ret (v := .tuple #[.agg #[.int .i64 0, .int .i64 0, .int .i64 0, .int .i64 0], .int .i64 2]) (by simp only [results, Try.results25]; go_simp) rfl ⟨congrArg Ending.returned HNO.out.symm, (by repeat' (first | (with_reducible exact Below.refl _ _) | (with_reducible assumption) | (with_reducible refine below_drewN ?_ _) | (with_reducible refine Below.drew ?_) | (with_reducible refine Below.alloc ?_ ?_ _) | (with_reducible refine Below.setCell ?_ ?_ _) | (with_reducible refine Below.trans ?_ (Below.mono (by with_reducible assumption) ?_)) | go_size | (dsimp only; omega)))⟩
            · have hg' : ∀ i, i < k + 1 → wOk i (zs.getD i 0) = true := by
                intro i hi
                by_cases e : i = k
                · subst e; exact hg
                · exact HG.out i (by omega)
              have HG' := Lib.hid hg'
              have HLO := Lib.hid hlo
              have HG0 := Lib.hid hg
              have HTK := Lib.hid htk
              clear hg' hlo hg htk
              generalize zs.getD k 0 = z at *
              by_cases hpar : k % 2 = 0
              · have e1 : (k : Int) % 2 = 0 := by omega
                have hM : (mR k z).cs = [.int .i64 1, .int .i64 z, .int .i64 0, .int .i64 1] := by unfold mR; rw [if_pos hpar]; rfl
                have HM := Lib.hid hM
                clear hM hpar
                go_wp2_with fail
                all_goals
                  refine (within_c _ _ _ _).mono ?_
                  rintro e w' ⟨rfl, rfl⟩
                  rw [show (decide (_ ≤ z) && decide (z ≤ 1000000000)) = true from by have h0 := HG0.out; unfold wOk at h0; rw [HLO.out] at h0; simp only [Bool.and_eq_true, decide_eq_true_eq] at h0 ⊢; omega]
                  go_wp2_with (at_builtin; refine wpList_append_own _ rfl _ _ 60 rfl (w.heap.size + 1) 25 i0 (.agg #[.int .i64 0, .int .i64 0, .int .i64 0, .int .i64 0]) 4 32 under_Ms hi hz0 hz1 hz2 rfl (by decide) _ _ _ rfl (hown.alloc _) ⟨wr.heap.size, 0, none⟩ 1 1 [.int .i64 1, .int .i64 z, .int .i64 0, .int .i64 1] rfl rfl (World.news_of_block (cs := #[.int .i64 1, .int .i64 z, .int .i64 0, .int .i64 1]) (t := 25) (fr := (0, 0)) (heap_alloc_new wr _)) (by simp [Value.oneCell']) (by unfold maxLen; omega) (by omega) (by simp; omega) ?_; intro v' w3 hown3 hgrow3 hnil3; obtain ⟨hB3, hs3, fc3, ff3⟩ := app_after hown hgrow3 hB (by omega) (by omega); have fc := fun o => fc3 w.heap.size o (by omega); have ff := fun o => ff3 w.heap.size o (by omega); have HN := Lib.hid hnil3; clear fc3 ff3 hgrow3 hnil3)
                  clear e1
                  go_roundw
                  case rel => exact ⟨k + 1, by omega, by go_num, (by intro e; exact absurd ((HN.out.mp e).2) (by decide)), HG', (by rw [HTK.out, cells4_snoc, HM.out]; exact hown3), by rw [fc]; exact d0, by rw [fc]; exact d1, by rw [fc]; exact d2, by rw [fc]; exact d3, (by intro i; rw [ff]; exact fw i), hB3, by omega⟩
                  case measure => simp [intOf]; omega
              · exfalso; omega
          · have hkn : k = 1 := by omega
            have hOK : OkR zs := OkR_of (by rw [HL.out]; exact hl) HNZ.out (fun i hi => HG.out i (by rw [HL.out] at hi; omega))
            have hyes := runsV_yes hOK
            obtain ⟨x0, x1, x2, x3, x4, hx⟩ := prodV_form (prodL M4.I (msR zs))
            rw [List.take_of_length_le (by rw [msR_len, HL.out]; omega)] at hown
            obtain ⟨g, c', rfl, hgn, hg0, hg1, hrow⟩ := rowM_own hown hnn
            have HYES := Lib.hid (hyes.trans hx)
            have HX := Lib.hid hx
            have HRW := Lib.hid hrow
            have HEN := Lib.hid (msR_ent hOK)
            have HLN := Lib.hid hgn
            clear hOK hyes hx hrow hgn hown hnn hlt
            subst hkn
            go_wp2_with fail
            refine (product_c g 0 _ c' _ _ HLN.out (by omega) hg1 HRW.out HEN.out).mono ?_
            rintro e w2 ⟨rfl, b2⟩
            rw [HX.out]
            have zzb2 := b2.size; (try simp at zzb2); have zb2_0 : w.heap.size < w2.heap.size := (by omega); have kcb2_0 : ∀ o, w2.cell? ⟨w.heap.size, o, none⟩ = _ := fun o => b2.cell (p := ⟨w.heap.size, o, none⟩) (by go_size); have kfb2_0 : ∀ o, w2.frozen? ⟨w.heap.size, o, none⟩ = _ := fun o => b2.frozen (p := ⟨w.heap.size, o, none⟩) (by go_size); clear zzb2
            have hB2 : Below w.heap.size w w2 := (by repeat' (first | (with_reducible exact Below.refl _ _) | (with_reducible assumption) | (with_reducible refine below_drewN ?_ _) | (with_reducible refine Below.drew ?_) | (with_reducible refine Below.alloc ?_ ?_ _) | (with_reducible refine Below.setCell ?_ ?_ _) | (with_reducible refine Below.trans ?_ (Below.mono (by with_reducible assumption) ?_)) | go_size | (dsimp only; omega)))
            go_wp2
            exact bodyPost_ret (v := .tuple #[.agg #[.int .i64 x0, .int .i64 x1, .int .i64 x2, .int .i64 x3], .int .i64 x4]) (by simp only [results, Try.results25]; go_simp) rfl ⟨congrArg Ending.returned HYES.out.symm, (by repeat' (first | (with_reducible exact Below.refl _ _) | (with_reducible assumption) | (with_reducible refine below_drewN ?_ _) | (with_reducible refine Below.drew ?_) | (with_reducible refine Below.alloc ?_ ?_ _) | (with_reducible refine Below.setCell ?_ ?_ _) | (with_reducible refine Below.trans ?_ (Below.mono (by with_reducible assumption) ?_)) | go_size | (dsimp only; omega)))⟩
    case neg =>
      have hc2 : ((n : Int) == 1) = false := by simp; omega
      have hc3 : ¬ (n : Int) = 1 := by omega
      have HNZ : Hid (¬ (zs.length = 1 ∧ zs.getD 0 0 = 0)) := Lib.hid (fun h => hc1 (by rw [← HL.out]; exact h.1))
      go_enter Try.func25, Try.ntmps25
      go_wp2
      go_loopw [4, 25] (fun v i wr => ∃ (k : Nat), k ≤ n ∧ i = .int .i64 k ∧ v ≠ .slice none 0 0 ∧ Hid (∀ i, i < k → wOk i (zs.getD i 0) = true) ∧ wr.ownsRow (w.heap.size + 1) 25 4 v k (cells4 ((msR zs).take k)) ∧ wr.cell? ⟨w.heap.size, 0, none⟩ = some (.int .i64 0) ∧ wr.cell? ⟨w.heap.size, 1, none⟩ = some (.int .i64 0) ∧ wr.cell? ⟨w.heap.size, 2, none⟩ = some (.int .i64 0) ∧ wr.cell? ⟨w.heap.size, 3, none⟩ = some (.int .i64 0) ∧ (∀ i, wr.frozen? ⟨w.heap.size, i, none⟩ = false) ∧ Below w.heap.size w wr ∧ w.heap.size + 1 < wr.heap.size) (fun v i wr => n - (intOf i).toNat)
      case atStart => exact ⟨0, Nat.zero_le _, rfl, by simp, Lib.hid (fun i h => by omega), by simpa [cells4] using hown0, by go_cell, by go_cell, by go_cell, by go_cell, (by intro i; first | (simp; done) | (go_simp; done)), (by repeat' (first | (with_reducible exact Below.refl _ _) | (with_reducible assumption) | (with_reducible refine below_drewN ?_ _) | (with_reducible refine Below.drew ?_) | (with_reducible refine Below.alloc ?_ ?_ _) | (with_reducible refine Below.setCell ?_ ?_ _) | (with_reducible refine Below.trans ?_ (Below.mono (by with_reducible assumption) ?_)) | go_size | (dsimp only; omega))), by simp⟩
      case round =>
        obtain ⟨k, hk, rfl, hnn, HG, hown, d0, d1, d2, d3, fw, hB, hsz⟩ := hrel
        clear hown0 hz00
        have hw : w.heap.size < wr.heap.size := by omega
        by_cases hlt : k < n
        · have hltI : (k : Int) < (n : Int) := by omega
          have q1 : wr.cell? ⟨b, o + k, none⟩ = some (.int .i64 (zs.getD k 0)) := by
            rw [hB.cell (p := ⟨b, o + k, none⟩) hb]; exact HR.out k hlt
          have htk := msR_take zs k (by rw [HL.out]; exact hlt)
          have hlo : (if k = 0 then (0 : Int) else 1) = min (k : Int) 1 := by split <;> omega
          cases hg : wOk k (zs.getD k 0)
          · have hno : runsV zs = .tuple #[.agg #[.int .i64 0, .int .i64 0, .int .i64 0, .int .i64 0], .int .i64 2] := runsV_no (fun h => by have := (OkR_to h).2 k (by rw [HL.out]; exact hlt); rw [hg] at this; simp at this)
            have HNO := Lib.hid hno
            have HLO := Lib.hid hlo
            have HG0 := Lib.hid hg
            clear hno hlo hg htk
            generalize zs.getD k 0 = z at *
            go_wp2_with fail
            all_goals
              refine (within_c _ _ _ _).mono ?_
              rintro e w' ⟨rfl, rfl⟩
              rw [show (decide (_ ≤ z) && decide (z ≤ 1000000000)) = false from by have h0 := HG0.out; unfold wOk at h0; rw [HLO.out] at h0; simp only [Bool.and_eq_false_iff, decide_eq_false_iff_not] at h0 ⊢; omega]
              go_wp2
              exact bodyPost_ret (v := .tuple #[.agg #[.int .i64 0, .int .i64 0, .int .i64 0, .int .i64 0], .int .i64 2]) (by simp only [results, Try.results25]; go_simp) rfl ⟨congrArg Ending.returned HNO.out.symm, (by repeat' (first | (with_reducible exact Below.refl _ _) | (with_reducible assumption) | (with_reducible refine below_drewN ?_ _) | (with_reducible refine Below.drew ?_) | (with_reducible refine Below.alloc ?_ ?_ _) | (with_reducible refine Below.setCell ?_ ?_ _) | (with_reducible refine Below.trans ?_ (Below.mono (by with_reducible assumption) ?_)) | go_size | (dsimp only; omega)))⟩
          · have hg' : ∀ i, i < k + 1 → wOk i (zs.getD i 0) = true := by
              intro i hi
              by_cases e : i = k
              · subst e; exact hg
              · exact HG.out i (by omega)
            have HG' := Lib.hid hg'
            have HLO := Lib.hid hlo
            have HG0 := Lib.hid hg
            have HTK := Lib.hid htk
            clear hg' hlo hg htk
            generalize zs.getD k 0 = z at *
            by_cases hpar : k % 2 = 0
            · have e1 : (k : Int) % 2 = 0 := by omega
              have hM : (mR k z).cs = [.int .i64 1, .int .i64 z, .int .i64 0, .int .i64 1] := by unfold mR; rw [if_pos hpar]; rfl
              have HM := Lib.hid hM
              clear hM hpar
              go_wp2_with fail
              all_goals
                refine (within_c _ _ _ _).mono ?_
                rintro e w' ⟨rfl, rfl⟩
                rw [show (decide (_ ≤ z) && decide (z ≤ 1000000000)) = true from by have h0 := HG0.out; unfold wOk at h0; rw [HLO.out] at h0; simp only [Bool.and_eq_true, decide_eq_true_eq] at h0 ⊢; omega]
                go_wp2_with (at_builtin; refine wpList_append_own _ rfl _ _ 60 rfl (w.heap.size + 1) 25 i0 (.agg #[.int .i64 0, .int .i64 0, .int .i64 0, .int .i64 0]) 4 32 under_Ms hi hz0 hz1 hz2 rfl (by decide) _ _ _ rfl (hown.alloc _) ⟨wr.heap.size, 0, none⟩ 1 1 [.int .i64 1, .int .i64 z, .int .i64 0, .int .i64 1] rfl rfl (World.news_of_block (cs := #[.int .i64 1, .int .i64 z, .int .i64 0, .int .i64 1]) (t := 25) (fr := (0, 0)) (heap_alloc_new wr _)) (by simp [Value.oneCell']) (by unfold maxLen; omega) (by omega) (by simp; omega) ?_; intro v' w3 hown3 hgrow3 hnil3; obtain ⟨hB3, hs3, fc3, ff3⟩ := app_after hown hgrow3 hB (by omega) (by omega); have fc := fun o => fc3 w.heap.size o (by omega); have ff := fun o => ff3 w.heap.size o (by omega); have HN := Lib.hid hnil3; clear fc3 ff3 hgrow3 hnil3)
                clear e1
                go_roundw
                case rel => exact ⟨k + 1, by omega, by go_num, (by intro e; exact absurd ((HN.out.mp e).2) (by decide)), HG', (by rw [HTK.out, cells4_snoc, HM.out]; exact hown3), by rw [fc]; exact d0, by rw [fc]; exact d1, by rw [fc]; exact d2, by rw [fc]; exact d3, (by intro i; rw [ff]; exact fw i), hB3, by omega⟩
                case measure => simp [intOf]; omega
            · have e1 : (k : Int) % 2 = 1 := by omega
              have hM : (mR k z).cs = [.int .i64 1, .int .i64 0, .int .i64 z, .int .i64 1] := by unfold mR; rw [if_neg hpar]; rfl
              have HM := Lib.hid hM
              clear hM hpar
              go_wp2_with fail
              all_goals
                refine (within_c _ _ _ _).mono ?_
                rintro e w' ⟨rfl, rfl⟩
                rw [show (decide (_ ≤ z) && decide (z ≤ 1000000000)) = true from by have h0 := HG0.out; unfold wOk at h0; rw [HLO.out] at h0; simp only [Bool.and_eq_true, decide_eq_true_eq] at h0 ⊢; omega]
                go_wp2_with (at_builtin; refine wpList_append_own _ rfl _ _ 60 rfl (w.heap.size + 1) 25 i0 (.agg #[.int .i64 0, .int .i64 0, .int .i64 0, .int .i64 0]) 4 32 under_Ms hi hz0 hz1 hz2 rfl (by decide) _ _ _ rfl (hown.alloc _) ⟨wr.heap.size, 0, none⟩ 1 1 [.int .i64 1, .int .i64 0, .int .i64 z, .int .i64 1] rfl rfl (World.news_of_block (cs := #[.int .i64 1, .int .i64 0, .int .i64 z, .int .i64 1]) (t := 25) (fr := (0, 0)) (heap_alloc_new wr _)) (by simp [Value.oneCell']) (by unfold maxLen; omega) (by omega) (by simp; omega) ?_; intro v' w3 hown3 hgrow3 hnil3; obtain ⟨hB3, hs3, fc3, ff3⟩ := app_after hown hgrow3 hB (by omega) (by omega); have fc := fun o => fc3 w.heap.size o (by omega); have ff := fun o => ff3 w.heap.size o (by omega); have HN := Lib.hid hnil3; clear fc3 ff3 hgrow3 hnil3)
                clear e1
                go_roundw
                case rel => exact ⟨k + 1, by omega, by go_num, (by intro e; exact absurd ((HN.out.mp e).2) (by decide)), HG', (by rw [HTK.out, cells4_snoc, HM.out]; exact hown3), by rw [fc]; exact d0, by rw [fc]; exact d1, by rw [fc]; exact d2, by rw [fc]; exact d3, (by intro i; rw [ff]; exact fw i), hB3, by omega⟩
                case measure => simp [intOf]; omega
        · have hkn : k = n := by omega
          have hOK : OkR zs := OkR_of (by rw [HL.out]; exact hl) HNZ.out (fun i hi => HG.out i (by rw [HL.out] at hi; omega))
          have hyes := runsV_yes hOK
          obtain ⟨x0, x1, x2, x3, x4, hx⟩ := prodV_form (prodL M4.I (msR zs))
          rw [List.take_of_length_le (by rw [msR_len, HL.out]; omega)] at hown
          obtain ⟨g, c', rfl, hgn, hg0, hg1, hrow⟩ := rowM_own hown hnn
          have HYES := Lib.hid (hyes.trans hx)
          have HX := Lib.hid hx
          have HRW := Lib.hid hrow
          have HEN := Lib.hid (msR_ent hOK)
          have HLN := Lib.hid hgn
          clear hOK hyes hx hrow hgn hown hnn hlt
          subst hkn
          go_wp2_with fail
          refine (product_c g 0 _ c' _ _ HLN.out (by omega) hg1 HRW.out HEN.out).mono ?_
          rintro e w2 ⟨rfl, b2⟩
          rw [HX.out]
          have zzb2 := b2.size; (try simp at zzb2); have zb2_0 : w.heap.size < w2.heap.size := (by omega); have kcb2_0 : ∀ o, w2.cell? ⟨w.heap.size, o, none⟩ = _ := fun o => b2.cell (p := ⟨w.heap.size, o, none⟩) (by go_size); have kfb2_0 : ∀ o, w2.frozen? ⟨w.heap.size, o, none⟩ = _ := fun o => b2.frozen (p := ⟨w.heap.size, o, none⟩) (by go_size); clear zzb2
          have hB2 : Below w.heap.size w w2 := (by repeat' (first | (with_reducible exact Below.refl _ _) | (with_reducible assumption) | (with_reducible refine below_drewN ?_ _) | (with_reducible refine Below.drew ?_) | (with_reducible refine Below.alloc ?_ ?_ _) | (with_reducible refine Below.setCell ?_ ?_ _) | (with_reducible refine Below.trans ?_ (Below.mono (by with_reducible assumption) ?_)) | go_size | (dsimp only; omega)))
          go_wp2
          exact bodyPost_ret (v := .tuple #[.agg #[.int .i64 x0, .int .i64 x1, .int .i64 x2, .int .i64 x3], .int .i64 x4]) (by simp only [results, Try.results25]; go_simp) rfl ⟨congrArg Ending.returned HYES.out.symm, (by repeat' (first | (with_reducible exact Below.refl _ _) | (with_reducible assumption) | (with_reducible refine below_drewN ?_ _) | (with_reducible refine Below.drew ?_) | (with_reducible refine Below.alloc ?_ ?_ _) | (with_reducible refine Below.setCell ?_ ?_ _) | (with_reducible refine Below.trans ?_ (Below.mono (by with_reducible assumption) ?_)) | go_size | (dsimp only; omega)))⟩
end Go.Proofs.Ytgpnfjpnbchglaa
