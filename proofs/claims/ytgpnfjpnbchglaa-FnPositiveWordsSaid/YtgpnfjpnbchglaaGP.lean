/- FnPositiveWords: the walk of the law. -/
import Derived.Test.YtgpnfjpnbchglaaGO
import Derived.Test.YtgpnfjpnbchglaaGM
import Derived.Test.YtgpnfjpnbchglaaGN
namespace Go.Proofs.Ytgpnfjpnbchglaa
open Go.RowKit
open Plain (Runs)
set_option linter.unusedVariables false
set_option linter.unusedSimpArgs false
attribute [local go_sem] run_equalIn_M
set_option maxRecDepth 100000 in
set_option maxHeartbeats 8000000 in
theorem FnPositiveWords_w (a : Option Addr) (len cap : Nat) (zs0 : List Int) (W : World) (hr : IsRow .u8 W a len cap zs0) (hl : len * 1 ≤ 140737488351232) :
    Calls Try.prog 4 #[.slice a len cap] W fun e w' => e = .returned (.bool true) ∧ Below W.heap.size W w' := by
  have hv := codeV_isRow hr hl
  clear hr
  go_enter Try.func4, Try.ntmps4
  go_wp2_with fail
  refine (big_c a len cap W (by omega)).mono ?_
  rintro e w0 ⟨rfl, rfl⟩
  by_cases hb : 4096 < len
  · have hb' : decide (4096 < len) = true := decide_eq_true hb
    rw [hb']
    clear hb'
    go_wp2
    go_returns
    exact ⟨rfl, Below.refl _ _⟩
  have hb' : decide (4096 < len) = false := decide_eq_false hb
  rw [hb']
  clear hb' hb hl
  go_wp2_with fail
  refine (drawPositiveWord_c _ W hv).mono ?_
  rintro e w1 ⟨⟨p, q, r, t, rfl⟩, b1⟩
  obtain ⟨S, c1, c2, c3, zs, pos, K1, K2, K3, K4, K5, K6, hzl, hpc, hc2n, hc2z⟩ := positive_all p q r t
  have HPC := Lib.hid hpc
  have HCN := Lib.hid hc2n
  have HCZ := Lib.hid hc2z
  clear hpc hc2n hc2z
  go_wp2_with fail
  generalize hw2 : World.alloc _ _ = w2
  obtain ⟨bm, hbm⟩ : ∃ bm, w1.heap.size = bm := ⟨_, rfl⟩
  have hm2 : M4At w2 bm ⟨p, q, r, t⟩ := by subst hw2 hbm; exact m4At_alloc w1 p q r t _
  have hz2 : bm < w2.heap.size := by subst hw2 hbm; simp
  have hz1 : W.heap.size ≤ bm := by have := b1.size; omega
  have hb2 : Below W.heap.size W w2 := by subst hw2; exact (by repeat' (first | (with_reducible exact Below.refl _ _) | (with_reducible assumption) | (with_reducible refine below_drewN ?_ _) | (with_reducible refine Below.drew ?_) | (with_reducible refine Below.alloc ?_ ?_ _) | (with_reducible refine Below.setCell ?_ ?_ _) | (with_reducible refine Below.trans ?_ (Below.mono (by with_reducible assumption) ?_)) | go_size | (dsimp only; omega)))
  (try rw [hbm])
  clear hw2 hbm b1
  refine (K1.out _).mono ?_
  rintro e w3 ⟨rfl, b3⟩
  have hm3 := hm2.below b3 (by omega)
  have hz3 := b3.size
  have hb3 : Below W.heap.size W w3 := hb2.trans (b3.mono (by omega))
  clear hm2 hb2 b3
  obtain ⟨g0, g1, g2, g3, g4, g5⟩ := id hm3
  simp only [] at g0 g1 g2 g3
  go_wp2_with fail
  clear g0 g1 g2 g3 g4 g5
  refine (K2.out _).mono ?_
  rintro e w4 ⟨rfl, b4⟩
  have hm4 := hm3.below b4 (by omega)
  have hz4 := b4.size
  have hb4 : Below W.heap.size W w4 := hb3.trans (b4.mono (by omega))
  clear hm3 hb3 b4
  obtain ⟨g0, g1, g2, g3, g4, g5⟩ := id hm4
  simp only [] at g0 g1 g2 g3
  go_wp2_with fail
  clear g0 g1 g2 g3 g4 g5
  refine (K3.out _).mono ?_
  rintro e w5 ⟨v1, rfl, hr5, b5⟩
  have hm5 := hm4.below b5 (by omega)
  have hz5 := b5.size
  have hb5 : Below W.heap.size W w5 := hb4.trans (b5.mono (by omega))
  clear hm4 hb4 b5
  obtain ⟨g0, g1, g2, g3, g4, g5⟩ := id hm5
  simp only [] at g0 g1 g2 g3
  go_wp2_with fail
  clear g0 g1 g2 g3 g4 g5
  refine (K4.out _).mono ?_
  rintro e w6 ⟨v2, rfl, hs6, b6⟩
  have hm6 := hm5.below b6 (by omega)
  have hr6 := hr5.below b6 (Nat.le_refl _)
  have hz6 := b6.size
  have hb6 : Below W.heap.size W w6 := hb5.trans (b6.mono (by omega))
  clear hm5 hb5 b6 hr5
  go_wp2_with fail
  refine (likeI_c v1 v2 _ _ zs w6 (by omega) hr6 hs6).mono ?_
  rintro e w7 ⟨rfl, m5, hw5⟩
  have b7 : Below w6.heap.size w6 w7 := by rw [hw5]; exact below_drewN (Below.refl _ _) _
  clear hw5 hs6
  have hm7 := hm6.below b7 (by omega)
  have hr7 := hr6.below b7 (Nat.le_refl _)
  have hz7 := b7.size
  have hb7 : Below W.heap.size W w7 := hb6.trans (b7.mono (by omega))
  clear hm6 hb6 b7 hr6
  obtain ⟨g0, g1, g2, g3, g4, g5⟩ := id hm7
  simp only [] at g0 g1 g2 g3
  go_wp2_with fail
  clear g0 g1 g2 g3 g4 g5
  refine (K5.out _).mono ?_
  rintro e w8 ⟨rfl, b8⟩
  have hm8 := hm7.below b8 (by omega)
  have hr8 := hr7.below b8 (Nat.le_refl _)
  have hz8 := b8.size
  have hb8 : Below W.heap.size W w8 := hb7.trans (b8.mono (by omega))
  clear hm7 hb7 b8 hr7
  obtain ⟨g0, g1, g2, g3, g4, g5⟩ := id hm8
  simp only [] at g0 g1 g2 g3
  go_wp2_with fail
  clear g0 g1 g2 g3 g4 g5
  refine (K6.out _).mono ?_
  rintro e w9 ⟨rfl, b9⟩
  have hm9 := hm8.below b9 (by omega)
  have hr9 := hr8.below b9 (Nat.le_refl _)
  have hz9 := b9.size
  have hb9 : Below W.heap.size W w9 := hb8.trans (b9.mono (by omega))
  clear hm8 hb8 b9 hr8
  go_wp2_with fail
  refine (drawMatrixOfRuns_c _ w9 (hv.below hb9)).mono ?_
  rintro e w10 ⟨l2, zs2, rfl, hd10, hzl2, b10⟩
  have hm10 := hm9.below b10 (by omega)
  have hr10 := hr9.below b10 (Nat.le_refl _)
  have hz10 := b10.size
  have hb10 : Below W.heap.size W w10 := hb9.trans (b10.mono (by omega))
  clear hm9 hb9 b10 hr9
  obtain ⟨x0, x1, x2, x3, x4, hrv⟩ := runsV_form zs2
  have HRV := Lib.hid hrv
  clear hrv
  go_wp2_with fail
  refine (MatrixOfRuns_c l2 zs2 w10 hd10.inI (by omega)).mono ?_
  rintro e w11 ⟨rfl, b11⟩
  have hm11 := hm10.below b11 (by omega)
  have hr11 := hr10.below b11 (Nat.le_refl _)
  have hd11 := hd10.below b11 (Nat.le_refl _)
  have hz11 := b11.size
  have hb11 : Below W.heap.size W w11 := hb10.trans (b11.mono (by omega))
  clear hm10 hb10 b11 hr10 hd10
  rw [HRV.out]
  go_wp2_with fail
  generalize hw12 : World.alloc _ _ = w12
  obtain ⟨bd, hbd⟩ : ∃ bd, w11.heap.size = bd := ⟨_, rfl⟩
  have hx12 : M4At w12 bd ⟨x0, x1, x2, x3⟩ := by subst hw12 hbd; exact m4At_alloc w11 x0 x1 x2 x3 _
  have bb : Below bd w11 w12 := by subst hw12 hbd; exact (by repeat' (first | (with_reducible exact Below.refl _ _) | (with_reducible assumption) | (with_reducible refine below_drewN ?_ _) | (with_reducible refine Below.drew ?_) | (with_reducible refine Below.alloc ?_ ?_ _) | (with_reducible refine Below.setCell ?_ ?_ _) | (with_reducible refine Below.trans ?_ (Below.mono (by with_reducible assumption) ?_)) | go_size | (dsimp only; omega)))
  have hz12 : bd < w12.heap.size := by subst hw12 hbd; simp
  have hm12 := hm11.below bb (by omega)
  have hr12 := hr11.below bb (by omega)
  have hd12 := hd11.below bb (by omega)
  have hb12 : Below W.heap.size W w12 := hb11.trans (bb.mono (by omega))
  (try rw [hbd])
  have hqd : w11.heap.size ≤ bd := by omega
  clear hw12 hbd bb hm11 hr11 hd11 hb11
  refine (sMatrixOfRuns_c l2 zs2 w12 hd12.inI (by omega)).mono ?_
  rintro e w13 ⟨rfl, b13⟩
  have hm13 := hm12.below b13 (by omega)
  have hr13 := hr12.below b13 (Nat.le_refl _)
  have hd13 := hd12.below b13 (Nat.le_refl _)
  have hx13 := hx12.below b13 (by omega)
  have hz13 := b13.size
  have hb13 : Below W.heap.size W w13 := hb12.trans (b13.mono (by omega))
  clear hm12 hb12 b13 hr12 hd12 hx12
  rw [HRV.out]
  obtain ⟨y0, y1, y2, y3, y4, y5⟩ := id hx13
  simp only [] at y0 y1 y2 y3
  go_wp2_with fail
  clear y0 y1 y2 y3 y4 y5
  generalize hw14 : World.alloc _ _ = w14
  have bb : Below w13.heap.size w13 w14 := by subst hw14; exact (by repeat' (first | (with_reducible exact Below.refl _ _) | (with_reducible assumption) | (with_reducible refine below_drewN ?_ _) | (with_reducible refine Below.drew ?_) | (with_reducible refine Below.alloc ?_ ?_ _) | (with_reducible refine Below.setCell ?_ ?_ _) | (with_reducible refine Below.trans ?_ (Below.mono (by with_reducible assumption) ?_)) | go_size | (dsimp only; omega)))
  have hz14 := bb.size
  have hm14 := hm13.below bb (by omega)
  have hr14 := hr13.below bb (Nat.le_refl _)
  have hd14 := hd13.below bb (Nat.le_refl _)
  have hx14 := hx13.below bb (by omega)
  have hb14 : Below W.heap.size W w14 := hb13.trans (bb.mono (by omega))
  clear hw14 bb hm13 hr13 hd13 hx13 hb13
  refine (drawSignBetween_c _ w14 (hv.below hb14)).mono ?_
  rintro e w15 ⟨⟨u0, u1, u2, u3, u4, u5, u6, u7, rfl⟩, b15⟩
  have hm15 := hm14.below b15 (by omega)
  have hr15 := hr14.below b15 (Nat.le_refl _)
  have hd15 := hd14.below b15 (Nat.le_refl _)
  have hx15 := hx14.below b15 (by omega)
  have hz15 := b15.size
  have hb15 : Below W.heap.size W w15 := hb14.trans (b15.mono (by omega))
  clear hm14 hb14 b15 hr14 hd14 hx14
  obtain ⟨sx, sc, K7, K8⟩ := sign_all u0 u1 u2 u3 u4 u5 u6 u7
  go_wp2_with fail
  generalize hw16 : World.alloc (World.alloc _ _) _ = w16
  obtain ⟨be, hbe⟩ : ∃ be, w15.heap.size = be := ⟨_, rfl⟩
  have hu16 : M4At w16 be ⟨u0, u1, u2, u3⟩ := by subst hw16 hbe; exact (m4At_alloc w15 u0 u1 u2 u3 _).below (Below.alloc (Below.refl _ _) (Nat.le_refl _) _) (by simp)
  have ht16 : M4At w16 (be + 1) ⟨u4, u5, u6, u7⟩ := by subst hw16 hbe; (have h := m4At_alloc (w15.alloc (Obj.cells #[.int .i64 u0, .int .i64 u1, .int .i64 u2, .int .i64 u3] 25)) u4 u5 u6 u7 25); simpa using h
  have bb : Below be w15 w16 := by subst hw16 hbe; exact (by repeat' (first | (with_reducible exact Below.refl _ _) | (with_reducible assumption) | (with_reducible refine below_drewN ?_ _) | (with_reducible refine Below.drew ?_) | (with_reducible refine Below.alloc ?_ ?_ _) | (with_reducible refine Below.setCell ?_ ?_ _) | (with_reducible refine Below.trans ?_ (Below.mono (by with_reducible assumption) ?_)) | go_size | (dsimp only; omega)))
  have hz16 : be + 1 < w16.heap.size := by subst hw16 hbe; simp
  have hm16 := hm15.below bb (by omega)
  have hr16 := hr15.below bb (by omega)
  have hd16 := hd15.below bb (by omega)
  have hx16 := hx15.below bb (by omega)
  have hb16 : Below W.heap.size W w16 := hb15.trans (bb.mono (by omega))
  have hqe : w15.heap.size ≤ be := by omega
  (try rw [hbe])
  clear hw16 hbe bb hm15 hr15 hd15 hx15 hb15
  refine (K7.out _).mono ?_
  rintro e w17 ⟨rfl, b17⟩
  have hm17 := hm16.below b17 (by omega)
  have hr17 := hr16.below b17 (Nat.le_refl _)
  have hd17 := hd16.below b17 (Nat.le_refl _)
  have hx17 := hx16.below b17 (by omega)
  have hu17 := hu16.below b17 (by omega)
  have ht17 := ht16.below b17 (by omega)
  have hz17 := b17.size
  have hb17 : Below W.heap.size W w17 := hb16.trans (b17.mono (by omega))
  clear hm16 hb16 b17 hr16 hd16 hx16 hu16 ht16
  obtain ⟨y0, y1, y2, y3, y4, y5⟩ := hu17
  obtain ⟨v0, v1', v2', v3, v4, v5⟩ := ht17
  simp only [] at y0 y1 y2 y3 v0 v1' v2' v3
  go_wp2_with fail
  clear y0 y1 y2 y3 y4 y5 v0 v1' v2' v3 v4 v5
  refine (K8.out _).mono ?_
  rintro e w18 ⟨rfl, b18⟩
  have hm18 := hm17.below b18 (by omega)
  have hr18 := hr17.below b18 (Nat.le_refl _)
  have hd18 := hd17.below b18 (Nat.le_refl _)
  have hx18 := hx17.below b18 (by omega)
  have hz18 := b18.size
  have hb18 : Below W.heap.size W w18 := hb17.trans (b18.mono (by omega))
  clear hm17 hb17 b18 hr17 hd17 hx17
  by_cases hx4 : x4 = 0
  · obtain ⟨hO, hpr⟩ := runsV_zero (by rw [HRV.out, hx4])
    obtain ⟨hM2, hP2, hR2⟩ := list_back hO hpr
    have HM2 := Lib.hid hM2
    have HP2 := Lib.hid hP2
    have HR2 := Lib.hid hR2
    clear hM2 hP2 hR2 hO hpr
    subst hx4
    obtain ⟨y0, y1, y2, y3, y4, y5⟩ := hx18
    simp only [] at y0 y1 y2 y3
    go_wp2_with fail
    clear y0 y1 y2 y3 y4 y5
    refine (RunsOf_yes x0 x1 x2 x3 zs2 _ HM2.out HP2.out HR2.out (by omega)).mono ?_
    rintro e wf ⟨vf, rfl, hof, bf⟩
    have hmf := hm18.below bf (by omega)
    have hrf := hr18.below bf (Nat.le_refl _)
    have hdf := hd18.below bf (Nat.le_refl _)
    have hzf := bf.size
    have hbf : Below W.heap.size W wf := hb18.trans (bf.mono (by omega))
    clear hm18 hr18 hd18 hb18 bf
    go_wp2_with fail
    refine (likeI_c vf l2 _ _ zs2 wf (by omega) hof hdf).mono ?_
    rintro e wg ⟨rfl, m6, hw6⟩
    have bg : Below wf.heap.size wf wg := by rw [hw6]; exact below_drewN (Below.refl _ _) _
    have hmg := hmf.below bg (by omega)
    have hrg := hrf.below bg (Nat.le_refl _)
    have hzg := bg.size
    have hbg : Below W.heap.size W wg := hbf.trans (bg.mono (by omega))
    clear hw6 bg hmf hrf hdf hbf hof
    have hcond : (c3 == 0 && (pos != (c2 == 0))) = false := by
      rw [Bool.eq_false_iff]
      intro h
      simp only [Bool.and_eq_true, beq_iff_eq, bne_iff_ne, ne_eq] at h
      have h2 := HPC.out h.1
      apply h.2
      cases pos
      · simp at h2; simp; exact h2
      · simp at h2; simp [h2]
    have hcond2 : c3 = 0 → pos = (c2 == 0) := by
      intro h
      have h2 := HPC.out h
      cases pos
      · simp at h2; symm; simpa using h2
      · simp at h2; simp [h2]
    have HCD := Lib.hid hcond2
    clear hcond hcond2
    by_cases hc2 : c2 = 0
    · obtain ⟨hM, hP, hR, hS, hC, hnn, htot⟩ := HCZ.out hc2
      subst hc2
      have HSS := Lib.hid hS
      have HCC := Lib.hid hC
      have HRB := Lib.hid (runs_back hR hM hP)
      have HNN := Lib.hid hnn
      have HWB := Lib.hid (fun ht => word_back hR hM hP ht)
      have hpos : c3 = 0 → pos = true := by intro h; have := HCD.out h; simpa using this
      clear hR hM hP hnn hS hC HCZ HCN HPC HCD
      obtain ⟨T, hT⟩ : ∃ T, tot zs = T := ⟨_, rfl⟩
      rw [hT] at htot
      have hT0 : 0 ≤ T := by rw [← hT]; exact tot_nonneg HNN.out
      have HT := Lib.hid hT
      have hq : (c3 == 0 && !pos) = false := by
        rw [Bool.eq_false_iff]; intro h; simp at h; rw [hpos h.1] at h; simp at h
      by_cases h3 : c3 = 0
      · have hp' := hpos h3
        subst h3 hp'
        clear hpos hq
        go_wp2_with fail
        refine (MatrixOfRuns_c v1 zs wg hrg.inI (by omega)).mono ?_
        rintro e wa ⟨rfl, ba⟩
        rw [HRB.out]
        have hma := hmg.below ba (by omega)
        have hra := hrg.below ba (Nat.le_refl _)
        have hza := ba.size
        have hba : Below W.heap.size W wa := hbg.trans (ba.mono (by omega))
        clear hmg hrg hbg ba
        by_cases hT2 : T ≤ 200
        · obtain ⟨hw1, hw2⟩ := HWB.out (by rw [HT.out]; exact hT2)
          rw [HT.out] at hw2
          have e1 : S = ⟨(wordL 0 zs).toArray⟩ := by rw [HSS.out]; unfold pwS; rw [if_pos (by rw [HT.out]; exact hT2)]
          have e2 : c1 = 0 := by rw [HCC.out]; unfold pwC; rw [if_pos (by rw [HT.out]; exact hT2)]
          rw [← e1] at hw1 hw2
          have HW1 := Lib.hid hw1
          clear hw1 e1 HSS HCC HWB
          subst e2
          obtain ⟨y0, y1, y2, y3, y4, y5⟩ := id hma
          simp only [] at y0 y1 y2 y3
          go_wp2_with fail
          generalize hwb : World.alloc _ _ = wb
          have bb : Below wa.heap.size wa wb := by subst hwb; exact (by repeat' (first | (with_reducible exact Below.refl _ _) | (with_reducible assumption) | (with_reducible refine below_drewN ?_ _) | (with_reducible refine Below.drew ?_) | (with_reducible refine Below.alloc ?_ ?_ _) | (with_reducible refine Below.setCell ?_ ?_ _) | (with_reducible refine Below.trans ?_ (Below.mono (by with_reducible assumption) ?_)) | go_size | (dsimp only; omega)))
          have hmb := hma.below bb (by omega)
          have hrb := hra.below bb (Nat.le_refl _)
          have hzb := bb.size
          have hbb : Below W.heap.size W wb := hba.trans (bb.mono (by omega))
          clear hwb bb hma hra hba y0 y1 y2 y3 y4 y5
          refine (MatrixOfWord_c S wb (by omega)).mono ?_
          rintro e wc ⟨rfl, bc⟩
          rw [HW1.out]
          have hmc := hmb.below bc (by omega)
          have hrc := hrb.below bc (Nat.le_refl _)
          have hzc := bc.size
          have hbc : Below W.heap.size W wc := hbb.trans (bc.mono (by omega))
          clear hmb hrb hbb bc
          obtain ⟨y0, y1, y2, y3, y4, y5⟩ := hmc
          simp only [] at y0 y1 y2 y3
          have hsw : ((S.size : Int) == T) = true := by rw [beq_iff_eq]; exact hw2
          have hbd0 : Below wc.heap.size wc (wc.alloc (Obj.cells #[.int .i64 p, .int .i64 q, .int .i64 r, .int .i64 t] 25)) := (by repeat' (first | (with_reducible exact Below.refl _ _) | (with_reducible assumption) | (with_reducible refine below_drewN ?_ _) | (with_reducible refine Below.drew ?_) | (with_reducible refine Below.alloc ?_ ?_ _) | (with_reducible refine Below.setCell ?_ ?_ _) | (with_reducible refine Below.trans ?_ (Below.mono (by with_reducible assumption) ?_)) | go_size | (dsimp only; omega)))
          have hrd := hrc.below hbd0 (Nat.le_refl _)
          have hbd : Below W.heap.size W _ := hbc.trans (hbd0.mono (by omega))
          clear hrc hbd0
          go_wp2_with fail
          refine (sum_c v1 _ zs _ hrd HNN.out (by rw [HT.out]; omega) hzl).mono ?_
          rintro e we ⟨rfl, b9⟩
          rw [HT.out]
          go_wp2
          go_returns
          exact ⟨rfl, (by repeat' (first | (with_reducible exact Below.refl _ _) | (with_reducible assumption) | (with_reducible refine below_drewN ?_ _) | (with_reducible refine Below.drew ?_) | (with_reducible refine Below.alloc ?_ ?_ _) | (with_reducible refine Below.setCell ?_ ?_ _) | (with_reducible refine Below.trans ?_ (Below.mono (by with_reducible assumption) ?_)) | go_size | (dsimp only; omega)))⟩
        · have e2 : c1 = 3 := by rw [HCC.out]; unfold pwC; rw [if_neg (by rw [HT.out]; exact hT2)]
          have hT3 : (200 : Int) < T := by omega
          clear HSS HCC HWB
          subst e2
          obtain ⟨y0, y1, y2, y3, y4, y5⟩ := hma
          simp only [] at y0 y1 y2 y3
          have hbd0 : Below wa.heap.size wa (wa.alloc (Obj.cells #[.int .i64 p, .int .i64 q, .int .i64 r, .int .i64 t] 25)) := (by repeat' (first | (with_reducible exact Below.refl _ _) | (with_reducible assumption) | (with_reducible refine below_drewN ?_ _) | (with_reducible refine Below.drew ?_) | (with_reducible refine Below.alloc ?_ ?_ _) | (with_reducible refine Below.setCell ?_ ?_ _) | (with_reducible refine Below.trans ?_ (Below.mono (by with_reducible assumption) ?_)) | go_size | (dsimp only; omega)))
          have hrd := hra.below hbd0 (Nat.le_refl _)
          have hbd : Below W.heap.size W _ := hba.trans (hbd0.mono (by omega))
          clear hra hbd0
          go_wp2_with fail
          refine (sum_c v1 _ zs _ hrd HNN.out (by rw [HT.out]; omega) hzl).mono ?_
          rintro e we ⟨rfl, b9⟩
          rw [HT.out]
          go_wp2
          go_returns
          exact ⟨rfl, (by repeat' (first | (with_reducible exact Below.refl _ _) | (with_reducible assumption) | (with_reducible refine below_drewN ?_ _) | (with_reducible refine Below.drew ?_) | (with_reducible refine Below.alloc ?_ ?_ _) | (with_reducible refine Below.setCell ?_ ?_ _) | (with_reducible refine Below.trans ?_ (Below.mono (by with_reducible assumption) ?_)) | go_size | (dsimp only; omega)))⟩
      · have h3' : (c3 == 0) = false := by simpa using h3
        clear hpos hq
        go_wp2_with fail
        refine (MatrixOfRuns_c v1 zs wg hrg.inI (by omega)).mono ?_
        rintro e wa ⟨rfl, ba⟩
        rw [HRB.out]
        have hma := hmg.below ba (by omega)
        have hra := hrg.below ba (Nat.le_refl _)
        have hza := ba.size
        have hba : Below W.heap.size W wa := hbg.trans (ba.mono (by omega))
        clear hmg hrg hbg ba
        by_cases hT2 : T ≤ 200
        · obtain ⟨hw1, hw2⟩ := HWB.out (by rw [HT.out]; exact hT2)
          rw [HT.out] at hw2
          have e1 : S = ⟨(wordL 0 zs).toArray⟩ := by rw [HSS.out]; unfold pwS; rw [if_pos (by rw [HT.out]; exact hT2)]
          have e2 : c1 = 0 := by rw [HCC.out]; unfold pwC; rw [if_pos (by rw [HT.out]; exact hT2)]
          rw [← e1] at hw1 hw2
          have HW1 := Lib.hid hw1
          clear hw1 e1 HSS HCC HWB
          subst e2
          obtain ⟨y0, y1, y2, y3, y4, y5⟩ := id hma
          simp only [] at y0 y1 y2 y3
          go_wp2_with fail
          generalize hwb : World.alloc _ _ = wb
          have bb : Below wa.heap.size wa wb := by subst hwb; exact (by repeat' (first | (with_reducible exact Below.refl _ _) | (with_reducible assumption) | (with_reducible refine below_drewN ?_ _) | (with_reducible refine Below.drew ?_) | (with_reducible refine Below.alloc ?_ ?_ _) | (with_reducible refine Below.setCell ?_ ?_ _) | (with_reducible refine Below.trans ?_ (Below.mono (by with_reducible assumption) ?_)) | go_size | (dsimp only; omega)))
          have hmb := hma.below bb (by omega)
          have hrb := hra.below bb (Nat.le_refl _)
          have hzb := bb.size
          have hbb : Below W.heap.size W wb := hba.trans (bb.mono (by omega))
          clear hwb bb hma hra hba y0 y1 y2 y3 y4 y5
          refine (MatrixOfWord_c S wb (by omega)).mono ?_
          rintro e wc ⟨rfl, bc⟩
          rw [HW1.out]
          have hmc := hmb.below bc (by omega)
          have hrc := hrb.below bc (Nat.le_refl _)
          have hzc := bc.size
          have hbc : Below W.heap.size W wc := hbb.trans (bc.mono (by omega))
          clear hmb hrb hbb bc
          obtain ⟨y0, y1, y2, y3, y4, y5⟩ := hmc
          simp only [] at y0 y1 y2 y3
          have hsw : ((S.size : Int) == T) = true := by rw [beq_iff_eq]; exact hw2
          have hbd0 : Below wc.heap.size wc (wc.alloc (Obj.cells #[.int .i64 p, .int .i64 q, .int .i64 r, .int .i64 t] 25)) := (by repeat' (first | (with_reducible exact Below.refl _ _) | (with_reducible assumption) | (with_reducible refine below_drewN ?_ _) | (with_reducible refine Below.drew ?_) | (with_reducible refine Below.alloc ?_ ?_ _) | (with_reducible refine Below.setCell ?_ ?_ _) | (with_reducible refine Below.trans ?_ (Below.mono (by with_reducible assumption) ?_)) | go_size | (dsimp only; omega)))
          have hrd := hrc.below hbd0 (Nat.le_refl _)
          have hbd : Below W.heap.size W _ := hbc.trans (hbd0.mono (by omega))
          clear hrc hbd0
          go_wp2_with fail
          refine (sum_c v1 _ zs _ hrd HNN.out (by rw [HT.out]; omega) hzl).mono ?_
          rintro e we ⟨rfl, b9⟩
          rw [HT.out]
          go_wp2
          go_returns
          exact ⟨rfl, (by repeat' (first | (with_reducible exact Below.refl _ _) | (with_reducible assumption) | (with_reducible refine below_drewN ?_ _) | (with_reducible refine Below.drew ?_) | (with_reducible refine Below.alloc ?_ ?_ _) | (with_reducible refine Below.setCell ?_ ?_ _) | (with_reducible refine Below.trans ?_ (Below.mono (by with_reducible assumption) ?_)) | go_size | (dsimp only; omega)))⟩
        · have e2 : c1 = 3 := by rw [HCC.out]; unfold pwC; rw [if_neg (by rw [HT.out]; exact hT2)]
          have hT3 : (200 : Int) < T := by omega
          clear HSS HCC HWB
          subst e2
          obtain ⟨y0, y1, y2, y3, y4, y5⟩ := hma
          simp only [] at y0 y1 y2 y3
          have hbd0 : Below wa.heap.size wa (wa.alloc (Obj.cells #[.int .i64 p, .int .i64 q, .int .i64 r, .int .i64 t] 25)) := (by repeat' (first | (with_reducible exact Below.refl _ _) | (with_reducible assumption) | (with_reducible refine below_drewN ?_ _) | (with_reducible refine Below.drew ?_) | (with_reducible refine Below.alloc ?_ ?_ _) | (with_reducible refine Below.setCell ?_ ?_ _) | (with_reducible refine Below.trans ?_ (Below.mono (by with_reducible assumption) ?_)) | go_size | (dsimp only; omega)))
          have hrd := hra.below hbd0 (Nat.le_refl _)
          have hbd : Below W.heap.size W _ := hba.trans (hbd0.mono (by omega))
          clear hra hbd0
          go_wp2_with fail
          refine (sum_c v1 _ zs _ hrd HNN.out (by rw [HT.out]; omega) hzl).mono ?_
          rintro e we ⟨rfl, b9⟩
          rw [HT.out]
          go_wp2
          go_returns
          exact ⟨rfl, (by repeat' (first | (with_reducible exact Below.refl _ _) | (with_reducible assumption) | (with_reducible refine below_drewN ?_ _) | (with_reducible refine Below.drew ?_) | (with_reducible refine Below.alloc ?_ ?_ _) | (with_reducible refine Below.setCell ?_ ?_ _) | (with_reducible refine Below.trans ?_ (Below.mono (by with_reducible assumption) ?_)) | go_size | (dsimp only; omega)))⟩
    · have hz0 := HCN.out hc2
      subst hz0
      have hc2' : (c2 == 0) = false := by simpa using hc2
      have hpos : c3 = 0 → pos = false := by intro h; have := HCD.out h; rw [hc2'] at this; exact this
      clear HCZ HCN HPC HCD K1 K2 K3 K4 K5 K6 K7 K8 HRV
      by_cases h3 : c3 = 0
      · have hp' := hpos h3
        subst h3 hp'
        clear hpos
        rcases hrg with ⟨-, p', c', rfl⟩ | ⟨g, c, rfl, -, -, -, -⟩
        · go_wp2
          go_returns
          exact ⟨rfl, (by repeat' (first | (with_reducible exact Below.refl _ _) | (with_reducible assumption) | (with_reducible refine below_drewN ?_ _) | (with_reducible refine Below.drew ?_) | (with_reducible refine Below.alloc ?_ ?_ _) | (with_reducible refine Below.setCell ?_ ?_ _) | (with_reducible refine Below.trans ?_ (Below.mono (by with_reducible assumption) ?_)) | go_size | (dsimp only; omega)))⟩
        · go_wp2
          go_returns
          exact ⟨rfl, (by repeat' (first | (with_reducible exact Below.refl _ _) | (with_reducible assumption) | (with_reducible refine below_drewN ?_ _) | (with_reducible refine Below.drew ?_) | (with_reducible refine Below.alloc ?_ ?_ _) | (with_reducible refine Below.setCell ?_ ?_ _) | (with_reducible refine Below.trans ?_ (Below.mono (by with_reducible assumption) ?_)) | go_size | (dsimp only; omega)))⟩
      · have h3' : (c3 == 0) = false := by simpa using h3
        clear hpos
        rcases hrg with ⟨-, p', c', rfl⟩ | ⟨g, c, rfl, -, -, -, -⟩
        · go_wp2
          go_returns
          exact ⟨rfl, (by repeat' (first | (with_reducible exact Below.refl _ _) | (with_reducible assumption) | (with_reducible refine below_drewN ?_ _) | (with_reducible refine Below.drew ?_) | (with_reducible refine Below.alloc ?_ ?_ _) | (with_reducible refine Below.setCell ?_ ?_ _) | (with_reducible refine Below.trans ?_ (Below.mono (by with_reducible assumption) ?_)) | go_size | (dsimp only; omega)))⟩
        · go_wp2
          go_returns
          exact ⟨rfl, (by repeat' (first | (with_reducible exact Below.refl _ _) | (with_reducible assumption) | (with_reducible refine below_drewN ?_ _) | (with_reducible refine Below.drew ?_) | (with_reducible refine Below.alloc ?_ ?_ _) | (with_reducible refine Below.setCell ?_ ?_ _) | (with_reducible refine Below.trans ?_ (Below.mono (by with_reducible assumption) ?_)) | go_size | (dsimp only; omega)))⟩
  · have hx4' : (x4 == 0) = false := by simpa using hx4
    have hcond : (c3 == 0 && (pos != (c2 == 0))) = false := by
      rw [Bool.eq_false_iff]
      intro h
      simp only [Bool.and_eq_true, beq_iff_eq, bne_iff_ne, ne_eq] at h
      have h2 := HPC.out h.1
      apply h.2
      cases pos
      · simp at h2; simp; exact h2
      · simp at h2; simp [h2]
    have hcond2 : c3 = 0 → pos = (c2 == 0) := by
      intro h
      have h2 := HPC.out h
      cases pos
      · simp at h2; symm; simpa using h2
      · simp at h2; simp [h2]
    have HCD := Lib.hid hcond2
    clear hcond hcond2
    by_cases hc2 : c2 = 0
    · obtain ⟨hM, hP, hR, hS, hC, hnn, htot⟩ := HCZ.out hc2
      subst hc2
      have HSS := Lib.hid hS
      have HCC := Lib.hid hC
      have HRB := Lib.hid (runs_back hR hM hP)
      have HNN := Lib.hid hnn
      have HWB := Lib.hid (fun ht => word_back hR hM hP ht)
      have hpos : c3 = 0 → pos = true := by intro h; have := HCD.out h; simpa using this
      clear hR hM hP hnn hS hC HCZ HCN HPC HCD
      obtain ⟨T, hT⟩ : ∃ T, tot zs = T := ⟨_, rfl⟩
      rw [hT] at htot
      have hT0 : 0 ≤ T := by rw [← hT]; exact tot_nonneg HNN.out
      have HT := Lib.hid hT
      have hq : (c3 == 0 && !pos) = false := by
        rw [Bool.eq_false_iff]; intro h; simp at h; rw [hpos h.1] at h; simp at h
      by_cases h3 : c3 = 0
      · have hp' := hpos h3
        subst h3 hp'
        clear hpos hq
        go_wp2_with fail
        refine (MatrixOfRuns_c v1 zs w18 hr18.inI (by omega)).mono ?_
        rintro e wa ⟨rfl, ba⟩
        rw [HRB.out]
        have hma := hm18.below ba (by omega)
        have hra := hr18.below ba (Nat.le_refl _)
        have hza := ba.size
        have hba : Below W.heap.size W wa := hb18.trans (ba.mono (by omega))
        clear hm18 hr18 hb18 ba
        by_cases hT2 : T ≤ 200
        · obtain ⟨hw1, hw2⟩ := HWB.out (by rw [HT.out]; exact hT2)
          rw [HT.out] at hw2
          have e1 : S = ⟨(wordL 0 zs).toArray⟩ := by rw [HSS.out]; unfold pwS; rw [if_pos (by rw [HT.out]; exact hT2)]
          have e2 : c1 = 0 := by rw [HCC.out]; unfold pwC; rw [if_pos (by rw [HT.out]; exact hT2)]
          rw [← e1] at hw1 hw2
          have HW1 := Lib.hid hw1
          clear hw1 e1 HSS HCC HWB
          subst e2
          obtain ⟨y0, y1, y2, y3, y4, y5⟩ := id hma
          simp only [] at y0 y1 y2 y3
          go_wp2_with fail
          generalize hwb : World.alloc _ _ = wb
          have bb : Below wa.heap.size wa wb := by subst hwb; exact (by repeat' (first | (with_reducible exact Below.refl _ _) | (with_reducible assumption) | (with_reducible refine below_drewN ?_ _) | (with_reducible refine Below.drew ?_) | (with_reducible refine Below.alloc ?_ ?_ _) | (with_reducible refine Below.setCell ?_ ?_ _) | (with_reducible refine Below.trans ?_ (Below.mono (by with_reducible assumption) ?_)) | go_size | (dsimp only; omega)))
          have hmb := hma.below bb (by omega)
          have hrb := hra.below bb (Nat.le_refl _)
          have hzb := bb.size
          have hbb : Below W.heap.size W wb := hba.trans (bb.mono (by omega))
          clear hwb bb hma hra hba y0 y1 y2 y3 y4 y5
          refine (MatrixOfWord_c S wb (by omega)).mono ?_
          rintro e wc ⟨rfl, bc⟩
          rw [HW1.out]
          have hmc := hmb.below bc (by omega)
          have hrc := hrb.below bc (Nat.le_refl _)
          have hzc := bc.size
          have hbc : Below W.heap.size W wc := hbb.trans (bc.mono (by omega))
          clear hmb hrb hbb bc
          obtain ⟨y0, y1, y2, y3, y4, y5⟩ := hmc
          simp only [] at y0 y1 y2 y3
          have hsw : ((S.size : Int) == T) = true := by rw [beq_iff_eq]; exact hw2
          have hbd0 : Below wc.heap.size wc (wc.alloc (Obj.cells #[.int .i64 p, .int .i64 q, .int .i64 r, .int .i64 t] 25)) := (by repeat' (first | (with_reducible exact Below.refl _ _) | (with_reducible assumption) | (with_reducible refine below_drewN ?_ _) | (with_reducible refine Below.drew ?_) | (with_reducible refine Below.alloc ?_ ?_ _) | (with_reducible refine Below.setCell ?_ ?_ _) | (with_reducible refine Below.trans ?_ (Below.mono (by with_reducible assumption) ?_)) | go_size | (dsimp only; omega)))
          have hrd := hrc.below hbd0 (Nat.le_refl _)
          have hbd : Below W.heap.size W _ := hbc.trans (hbd0.mono (by omega))
          clear hrc hbd0
          go_wp2_with fail
          refine (sum_c v1 _ zs _ hrd HNN.out (by rw [HT.out]; omega) hzl).mono ?_
          rintro e we ⟨rfl, b9⟩
          rw [HT.out]
          go_wp2
          go_returns
          exact ⟨rfl, (by repeat' (first | (with_reducible exact Below.refl _ _) | (with_reducible assumption) | (with_reducible refine below_drewN ?_ _) | (with_reducible refine Below.drew ?_) | (with_reducible refine Below.alloc ?_ ?_ _) | (with_reducible refine Below.setCell ?_ ?_ _) | (with_reducible refine Below.trans ?_ (Below.mono (by with_reducible assumption) ?_)) | go_size | (dsimp only; omega)))⟩
        · have e2 : c1 = 3 := by rw [HCC.out]; unfold pwC; rw [if_neg (by rw [HT.out]; exact hT2)]
          have hT3 : (200 : Int) < T := by omega
          clear HSS HCC HWB
          subst e2
          obtain ⟨y0, y1, y2, y3, y4, y5⟩ := hma
          simp only [] at y0 y1 y2 y3
          have hbd0 : Below wa.heap.size wa (wa.alloc (Obj.cells #[.int .i64 p, .int .i64 q, .int .i64 r, .int .i64 t] 25)) := (by repeat' (first | (with_reducible exact Below.refl _ _) | (with_reducible assumption) | (with_reducible refine below_drewN ?_ _) | (with_reducible refine Below.drew ?_) | (with_reducible refine Below.alloc ?_ ?_ _) | (with_reducible refine Below.setCell ?_ ?_ _) | (with_reducible refine Below.trans ?_ (Below.mono (by with_reducible assumption) ?_)) | go_size | (dsimp only; omega)))
          have hrd := hra.below hbd0 (Nat.le_refl _)
          have hbd : Below W.heap.size W _ := hba.trans (hbd0.mono (by omega))
          clear hra hbd0
          go_wp2_with fail
          refine (sum_c v1 _ zs _ hrd HNN.out (by rw [HT.out]; omega) hzl).mono ?_
          rintro e we ⟨rfl, b9⟩
          rw [HT.out]
          go_wp2
          go_returns
          exact ⟨rfl, (by repeat' (first | (with_reducible exact Below.refl _ _) | (with_reducible assumption) | (with_reducible refine below_drewN ?_ _) | (with_reducible refine Below.drew ?_) | (with_reducible refine Below.alloc ?_ ?_ _) | (with_reducible refine Below.setCell ?_ ?_ _) | (with_reducible refine Below.trans ?_ (Below.mono (by with_reducible assumption) ?_)) | go_size | (dsimp only; omega)))⟩
      · have h3' : (c3 == 0) = false := by simpa using h3
        clear hpos hq
        go_wp2_with fail
        refine (MatrixOfRuns_c v1 zs w18 hr18.inI (by omega)).mono ?_
        rintro e wa ⟨rfl, ba⟩
        rw [HRB.out]
        have hma := hm18.below ba (by omega)
        have hra := hr18.below ba (Nat.le_refl _)
        have hza := ba.size
        have hba : Below W.heap.size W wa := hb18.trans (ba.mono (by omega))
        clear hm18 hr18 hb18 ba
        by_cases hT2 : T ≤ 200
        · obtain ⟨hw1, hw2⟩ := HWB.out (by rw [HT.out]; exact hT2)
          rw [HT.out] at hw2
          have e1 : S = ⟨(wordL 0 zs).toArray⟩ := by rw [HSS.out]; unfold pwS; rw [if_pos (by rw [HT.out]; exact hT2)]
          have e2 : c1 = 0 := by rw [HCC.out]; unfold pwC; rw [if_pos (by rw [HT.out]; exact hT2)]
          rw [← e1] at hw1 hw2
          have HW1 := Lib.hid hw1
          clear hw1 e1 HSS HCC HWB
          subst e2
          obtain ⟨y0, y1, y2, y3, y4, y5⟩ := id hma
          simp only [] at y0 y1 y2 y3
          go_wp2_with fail
          generalize hwb : World.alloc _ _ = wb
          have bb : Below wa.heap.size wa wb := by subst hwb; exact (by repeat' (first | (with_reducible exact Below.refl _ _) | (with_reducible assumption) | (with_reducible refine below_drewN ?_ _) | (with_reducible refine Below.drew ?_) | (with_reducible refine Below.alloc ?_ ?_ _) | (with_reducible refine Below.setCell ?_ ?_ _) | (with_reducible refine Below.trans ?_ (Below.mono (by with_reducible assumption) ?_)) | go_size | (dsimp only; omega)))
          have hmb := hma.below bb (by omega)
          have hrb := hra.below bb (Nat.le_refl _)
          have hzb := bb.size
          have hbb : Below W.heap.size W wb := hba.trans (bb.mono (by omega))
          clear hwb bb hma hra hba y0 y1 y2 y3 y4 y5
          refine (MatrixOfWord_c S wb (by omega)).mono ?_
          rintro e wc ⟨rfl, bc⟩
          rw [HW1.out]
          have hmc := hmb.below bc (by omega)
          have hrc := hrb.below bc (Nat.le_refl _)
          have hzc := bc.size
          have hbc : Below W.heap.size W wc := hbb.trans (bc.mono (by omega))
          clear hmb hrb hbb bc
          obtain ⟨y0, y1, y2, y3, y4, y5⟩ := hmc
          simp only [] at y0 y1 y2 y3
          have hsw : ((S.size : Int) == T) = true := by rw [beq_iff_eq]; exact hw2
          have hbd0 : Below wc.heap.size wc (wc.alloc (Obj.cells #[.int .i64 p, .int .i64 q, .int .i64 r, .int .i64 t] 25)) := (by repeat' (first | (with_reducible exact Below.refl _ _) | (with_reducible assumption) | (with_reducible refine below_drewN ?_ _) | (with_reducible refine Below.drew ?_) | (with_reducible refine Below.alloc ?_ ?_ _) | (with_reducible refine Below.setCell ?_ ?_ _) | (with_reducible refine Below.trans ?_ (Below.mono (by with_reducible assumption) ?_)) | go_size | (dsimp only; omega)))
          have hrd := hrc.below hbd0 (Nat.le_refl _)
          have hbd : Below W.heap.size W _ := hbc.trans (hbd0.mono (by omega))
          clear hrc hbd0
          go_wp2_with fail
          refine (sum_c v1 _ zs _ hrd HNN.out (by rw [HT.out]; omega) hzl).mono ?_
          rintro e we ⟨rfl, b9⟩
          rw [HT.out]
          go_wp2
          go_returns
          exact ⟨rfl, (by repeat' (first | (with_reducible exact Below.refl _ _) | (with_reducible assumption) | (with_reducible refine below_drewN ?_ _) | (with_reducible refine Below.drew ?_) | (with_reducible refine Below.alloc ?_ ?_ _) | (with_reducible refine Below.setCell ?_ ?_ _) | (with_reducible refine Below.trans ?_ (Below.mono (by with_reducible assumption) ?_)) | go_size | (dsimp only; omega)))⟩
        · have e2 : c1 = 3 := by rw [HCC.out]; unfold pwC; rw [if_neg (by rw [HT.out]; exact hT2)]
          have hT3 : (200 : Int) < T := by omega
          clear HSS HCC HWB
          subst e2
          obtain ⟨y0, y1, y2, y3, y4, y5⟩ := hma
          simp only [] at y0 y1 y2 y3
          have hbd0 : Below wa.heap.size wa (wa.alloc (Obj.cells #[.int .i64 p, .int .i64 q, .int .i64 r, .int .i64 t] 25)) := (by repeat' (first | (with_reducible exact Below.refl _ _) | (with_reducible assumption) | (with_reducible refine below_drewN ?_ _) | (with_reducible refine Below.drew ?_) | (with_reducible refine Below.alloc ?_ ?_ _) | (with_reducible refine Below.setCell ?_ ?_ _) | (with_reducible refine Below.trans ?_ (Below.mono (by with_reducible assumption) ?_)) | go_size | (dsimp only; omega)))
          have hrd := hra.below hbd0 (Nat.le_refl _)
          have hbd : Below W.heap.size W _ := hba.trans (hbd0.mono (by omega))
          clear hra hbd0
          go_wp2_with fail
          refine (sum_c v1 _ zs _ hrd HNN.out (by rw [HT.out]; omega) hzl).mono ?_
          rintro e we ⟨rfl, b9⟩
          rw [HT.out]
          go_wp2
          go_returns
          exact ⟨rfl, (by repeat' (first | (with_reducible exact Below.refl _ _) | (with_reducible assumption) | (with_reducible refine below_drewN ?_ _) | (with_reducible refine Below.drew ?_) | (with_reducible refine Below.alloc ?_ ?_ _) | (with_reducible refine Below.setCell ?_ ?_ _) | (with_reducible refine Below.trans ?_ (Below.mono (by with_reducible assumption) ?_)) | go_size | (dsimp only; omega)))⟩
    · have hz0 := HCN.out hc2
      subst hz0
      have hc2' : (c2 == 0) = false := by simpa using hc2
      have hpos : c3 = 0 → pos = false := by intro h; have := HCD.out h; rw [hc2'] at this; exact this
      clear HCZ HCN HPC HCD K1 K2 K3 K4 K5 K6 K7 K8 HRV
      by_cases h3 : c3 = 0
      · have hp' := hpos h3
        subst h3 hp'
        clear hpos
        rcases hr18 with ⟨-, p', c', rfl⟩ | ⟨g, c, rfl, -, -, -, -⟩
        · go_wp2
          go_returns
          exact ⟨rfl, (by repeat' (first | (with_reducible exact Below.refl _ _) | (with_reducible assumption) | (with_reducible refine below_drewN ?_ _) | (with_reducible refine Below.drew ?_) | (with_reducible refine Below.alloc ?_ ?_ _) | (with_reducible refine Below.setCell ?_ ?_ _) | (with_reducible refine Below.trans ?_ (Below.mono (by with_reducible assumption) ?_)) | go_size | (dsimp only; omega)))⟩
        · go_wp2
          go_returns
          exact ⟨rfl, (by repeat' (first | (with_reducible exact Below.refl _ _) | (with_reducible assumption) | (with_reducible refine below_drewN ?_ _) | (with_reducible refine Below.drew ?_) | (with_reducible refine Below.alloc ?_ ?_ _) | (with_reducible refine Below.setCell ?_ ?_ _) | (with_reducible refine Below.trans ?_ (Below.mono (by with_reducible assumption) ?_)) | go_size | (dsimp only; omega)))⟩
      · have h3' : (c3 == 0) = false := by simpa using h3
        clear hpos
        rcases hr18 with ⟨-, p', c', rfl⟩ | ⟨g, c, rfl, -, -, -, -⟩
        · go_wp2
          go_returns
          exact ⟨rfl, (by repeat' (first | (with_reducible exact Below.refl _ _) | (with_reducible assumption) | (with_reducible refine below_drewN ?_ _) | (with_reducible refine Below.drew ?_) | (with_reducible refine Below.alloc ?_ ?_ _) | (with_reducible refine Below.setCell ?_ ?_ _) | (with_reducible refine Below.trans ?_ (Below.mono (by with_reducible assumption) ?_)) | go_size | (dsimp only; omega)))⟩
        · go_wp2
          go_returns
          exact ⟨rfl, (by repeat' (first | (with_reducible exact Below.refl _ _) | (with_reducible assumption) | (with_reducible refine below_drewN ?_ _) | (with_reducible refine Below.drew ?_) | (with_reducible refine Below.alloc ?_ ?_ _) | (with_reducible refine Below.setCell ?_ ?_ _) | (with_reducible refine Below.trans ?_ (Below.mono (by with_reducible assumption) ?_)) | go_size | (dsimp only; omega)))⟩
end Go.Proofs.Ytgpnfjpnbchglaa
