/- Draws of positive matrices, of runs, of two matrices. -/
import Derived.Test.YtgpnfjpnbchglaaGJ
import Derived.Test.YtgpnfjpnbchglaaAX
namespace Go.Proofs.Ytgpnfjpnbchglaa
open Go.RowKit
set_option linter.unusedVariables false
set_option linter.unusedSimpArgs false
set_option maxRecDepth 100000 in
set_option maxHeartbeats 4000000 in
theorem drawPositive_c (s : Nat) (w : World) (hS : Src s w) :
    Calls Try.prog 52 #[.pointer (some ⟨s, 0, none⟩)] w fun e w' => AnyM e ∧ Src s w' ∧ Kp s w.heap.size w w' := by
  obtain ⟨i0, hi, hz0, hz1, hz2⟩ := info_parts info_i64
  have hs := hS.lt
  go_enter Try.func52, Try.ntmps52
  obtain ⟨R, hR⟩ : ∃ R, w.heap.size = R := ⟨_, rfl⟩
  have HRW := Lib.hid hR
  go_wp2_with fail
  generalize hw0 : World.alloc (World.alloc _ _) _ = w0
  have hR0 : M4At w0 R ⟨0, 0, 0, 0⟩ := by subst hw0; rw [← hR]; exact (m4At_alloc w 0 0 0 0 _).below (Below.alloc (Below.refl _ _) (Nat.le_refl _) _) (by simp)
  have hS0 : Src s w0 := by subst hw0; exact (by repeat' (first | (with_reducible assumption) | (with_reducible refine Src.drewN ?_ _) | (with_reducible refine Src.drew ?_) | (with_reducible refine Src.alloc ?_ _) | (with_reducible refine Src.setCell ?_ ?_ _) | (with_reducible refine Src.below ?_ (by with_reducible assumption) ?_) | go_size | (dsimp only; omega)))
  have hL0 : RowI w0 (R + 1) 0 [3, 8, 20] := by subst hw0; (have h := rowI_alloc (w.alloc (Obj.cells #[.int .i64 0, .int .i64 0, .int .i64 0, .int .i64 0] 25)) [3, 8, 20] 2); simpa [hR] using h
  have hK0 : Kp s R w w0 := by subst hw0; rw [← hR]; exact (by repeat' (first | (with_reducible exact Kp.refl _ _ _) | (with_reducible assumption) | (with_reducible refine Kp.drewN ?_ _) | (with_reducible refine Kp.drew ?_) | (with_reducible refine Kp.alloc ?_ ?_ _) | (with_reducible refine Kp.setCell ?_ ?_ _) | (with_reducible refine Kp.trans ?_ (Kp.mono (by with_reducible assumption) ?_)) | (with_reducible refine Kp.trans ?_ (Kp.of_below (Below.mono (by with_reducible assumption) ?_))) | go_size | (dsimp only; omega)))
  have hq0 : R + 1 < w0.heap.size := by subst hw0; go_size
  (try rw [hR])
  rw [hR] at hs
  clear hw0 hS hR
  refine (pick_c s (R + 1) _ [3, 8, 20] _ hS0 hq0 (by omega) hL0 (by decide) (by decide)).mono ?_
  rintro e w1 ⟨x, rfl, hx, hS1, hK1⟩
  have hxb : 3 ≤ x ∧ x ≤ 20 := by simp at hx; omega
  have hR1 := hR0.kp hK1 (by omega) (by omega)
  have hq1 := hK1.size
  have hKw1 : Kp s R w w1 := hK0.trans (hK1.mono (by omega))
  clear hR0 hS0 hL0 hK0 hK1 hx
  go_wp2_with fail
  refine (drawLetters_c s ⟨#[76, 84]⟩ x _ hS1 (by decide) (by decide) (by omega) (by omega)).mono ?_
  rintro e w2 ⟨str, rfl, hstr, hS2, hK2⟩
  have hR2 := hR1.kp hK2 (by omega) (by omega)
  have hq2 := hK2.size
  have hKw2 : Kp s R w w2 := hKw1.trans (hK2.mono (by omega))
  clear hR1 hS1 hKw1 hK2
  obtain ⟨p, q, r, t, c, hwv⟩ := wordV_form str
  have HWV := Lib.hid hwv
  clear hwv
  go_wp2_with fail
  refine (sMatrixOfWord_c str _ (by omega)).mono ?_
  rintro e w3 ⟨rfl, b3⟩
  rw [HWV.out]
  have hq3 := b3.size
  have hs2 := hS2.lt
  have hS3 := hS2.below b3 hs2
  have hR3 := hR2.below b3 (by omega)
  have hKw3 : Kp s R w w3 := hKw2.trans ((Kp.of_below b3).mono (by omega))
  clear hR2 hS2 hKw2 b3
  go_wp2_with fail
  generalize hw4 : World.alloc _ _ = w4
  obtain ⟨bo, hbo⟩ : ∃ bo, w3.heap.size = bo := ⟨_, rfl⟩
  have ho4 : M4At w4 bo ⟨p, q, r, t⟩ := by subst hw4 hbo; exact m4At_alloc w3 p q r t _
  have hS4 : Src s w4 := by subst hw4; exact (by repeat' (first | (with_reducible assumption) | (with_reducible refine Src.drewN ?_ _) | (with_reducible refine Src.drew ?_) | (with_reducible refine Src.alloc ?_ _) | (with_reducible refine Src.setCell ?_ ?_ _) | (with_reducible refine Src.below ?_ (by with_reducible assumption) ?_) | go_size | (dsimp only; omega)))
  have bb4 : Below bo w3 w4 := by subst hw4 hbo; exact (by repeat' (first | (with_reducible exact Below.refl _ _) | (with_reducible assumption) | (with_reducible refine below_drewN ?_ _) | (with_reducible refine Below.drew ?_) | (with_reducible refine Below.alloc ?_ ?_ _) | (with_reducible refine Below.setCell ?_ ?_ _) | (with_reducible refine Below.trans ?_ (Below.mono (by with_reducible assumption) ?_)) | go_size | (dsimp only; omega)))
  have hq4 : bo < w4.heap.size := by subst hw4 hbo; simp
  have hR4 := hR3.below bb4 (by omega)
  have hKw4 : Kp s R w w4 := hKw3.trans ((Kp.of_below bb4).mono (by omega))
  (try rw [hbo])
  have hq4' : w3.heap.size ≤ bo := by omega
  have hs4 : s < bo := by omega
  clear hw4 hbo bb4 hR3 hS3 hKw3
  refine (next_c s 4 _ hS4 (by omega) (by omega)).mono ?_
  rintro e w5 ⟨y, rfl, -, -, hS5, hK5⟩
  have hq5 := hK5.size
  have ho5 := ho4.kp hK5 (by omega) (by omega)
  have hR5 := hR4.kp hK5 (by omega) (by omega)
  have hKw5 : Kp s R w w5 := hKw4.trans (hK5.mono (by omega))
  clear ho4 hR4 hS4 hKw4 hK5
  by_cases hy : y = 0
  · subst hy
    go_wp2_with fail
    refine (next_c s 1000 _ hS5 (by omega) (by omega)).mono ?_
    rintro e w6 ⟨z, rfl, hz0', hz1', hS6, hK6⟩
    have hz2' := hz1' (by omega)
    have hq6 := hK6.size
    have ho6 := ho5.kp hK6 (by omega) (by omega)
    have hR6 := hR5.kp hK6 (by omega) (by omega)
    have hKw6 : Kp s R w w6 := hKw5.trans (hK6.mono (by omega))
    clear ho5 hR5 hS5 hKw5 hK6 hz1'
    obtain ⟨B, hB⟩ : ∃ B, w6.heap.size = B := ⟨_, rfl⟩
    have hown0 : (w6.alloc (Obj.cells #[.int .i64 z] 2)).ownsRow B 2 1 (.slice (some ⟨B, 0, none⟩) 1 1) 1 ([z].map (Value.int .i64)) := by
      rw [← hB]
      exact ⟨by simp, .inr ⟨w6.heap.size, 1, #[.int .i64 z], rfl, Nat.le_refl _, heap_alloc_new w6 _, by simp, by unfold maxLen; omega, by simp, by simp⟩⟩
    go_wp2_with fail
    generalize hw7 : World.alloc _ _ = w7 at hown0 ⊢
    have bb7 : Below B w6 w7 := by subst hw7 hB; exact (by repeat' (first | (with_reducible exact Below.refl _ _) | (with_reducible assumption) | (with_reducible refine below_drewN ?_ _) | (with_reducible refine Below.drew ?_) | (with_reducible refine Below.alloc ?_ ?_ _) | (with_reducible refine Below.setCell ?_ ?_ _) | (with_reducible refine Below.trans ?_ (Below.mono (by with_reducible assumption) ?_)) | go_size | (dsimp only; omega)))
    have hS7 := hS6.below bb7 (by omega)
    have ho7 := ho6.below bb7 (by omega)
    have hR7 := hR6.below bb7 (by omega)
    have hq7 : B < w7.heap.size := by subst hw7 hB; simp
    have hKw7 : Kp s R w w7 := hKw6.trans ((Kp.of_below bb7).mono (by omega))
    (try rw [hB])
    have hqB : w6.heap.size ≤ B := by omega
    clear hw7 hB bb7 ho6 hR6 hS6 hKw6
    refine (next_c s 3 _ hS7 (by omega) (by omega)).mono ?_
    rintro e w8 ⟨k0, rfl, hk00, hk01, hS8, hK8⟩
    have hk02 := hk01 (by omega)
    have hq8 := hK8.size
    have ho8 := ho7.kp hK8 (by omega) (by omega)
    have hR8 := hR7.kp hK8 (by omega) (by omega)
    have hown8 := own_kp hown0 hK8 (by omega)
    have hKw8 : Kp s R w w8 := hKw7.trans (hK8.mono (by omega))
    clear ho7 hR7 hS7 hKw7 hK8 hown0 hk01
    go_wp2
    go_loopw [5, 6] (fun vl vk wr => ∃ (k : Int) (n : Nat) (zs : List Int), vk = .int .i64 k ∧ k ≤ 100 ∧ 0 ≤ k ∧ k + n ≤ 15 ∧ 1 ≤ n ∧ zs.length = n ∧ wr.ownsRow B 2 1 vl n (zs.map (Value.int .i64)) ∧ Src s wr ∧ M4At wr bo ⟨p, q, r, t⟩ ∧ M4At wr R ⟨0, 0, 0, 0⟩ ∧ Kp s R w wr ∧ B < wr.heap.size) (fun vl vk wr => (intOf vk).toNat)
    case atStart => exact ⟨k0, 1, [z], rfl, by omega, by omega, by omega, by omega, rfl, hown8, hS8, ho8, hR8, hKw8, by omega⟩
    case round =>
      clear hown8 hS8 ho8 hR8 hKw8
      obtain ⟨k, n, zs, rfl, hk0, hk1, hk2, hk3, hzn, hown, hSr, hor, hRr, hKr, hzr⟩ := hrel
      have HZN := Lib.hid hzn
      clear hzn
      by_cases hz : 0 < k
      · have hz' : decide (0 < k) = true := decide_eq_true hz
        have k10 : Kp s wr.heap.size wr (wr.alloc (Obj.cells #[.int .i64 9, .int .i64 300] 2)) := (Kp.refl _ _ _).alloc (Nat.le_refl _) _
        go_wp2_with fail
        refine (pick_c s _ _ [9, 300] _ (by repeat' (first | (with_reducible assumption) | (with_reducible refine Src.drewN ?_ _) | (with_reducible refine Src.drew ?_) | (with_reducible refine Src.alloc ?_ _) | (with_reducible refine Src.setCell ?_ ?_ _) | (with_reducible refine Src.below ?_ (by with_reducible assumption) ?_) | go_size | (dsimp only; omega))) (by go_size) (by first | (dsimp only; omega) | (simp; omega)) (rowI_alloc _ [9, 300] _) (by decide) (by decide)).mono ?_
        rintro e w10 ⟨x6, rfl, hx6, hS10, hK10⟩
        have hx6b : 1 ≤ x6 ∧ x6 ≤ 2000 := by simp at hx6; omega
        have kk := k10.trans (hK10.mono (by simp))
        have hown10 := own_kp hown kk (by omega)
        have ho10 := hor.kp kk (by omega) (by omega)
        have hR10 := hRr.kp kk (by omega) (by omega)
        have hq10 := kk.size
        have hKw10 : Kp s R w w10 := hKr.trans (kk.mono (by omega))
        clear hown hSr hor hRr hKr hK10 hx6 kk k10
        go_wp2_with fail
        refine (next_c s x6 _ hS10 (by omega) (by omega)).mono ?_
        rintro e w11 ⟨y7, rfl, hy70, hy71, hS11, hK11⟩
        have hy72 := hy71 (by omega)
        have hown11 := own_kp hown10 hK11 (by omega)
        have ho11 := ho10.kp hK11 (by omega) (by omega)
        have hR11 := hR10.kp hK11 (by omega) (by omega)
        have hq11 := hK11.size
        have hKw11 : Kp s R w w11 := hKw10.trans (hK11.mono (by omega))
        clear hown10 hS10 ho10 hR10 hKw10 hK11 hy71
        go_wp2_with (at_builtin; refine wpList_append_own _ rfl _ _ 27 rfl B 2 i0 (.int .i64 0) 1 8 under_i64s hi hz0 hz1 hz2 rfl (by decide) _ _ _ rfl (hown11.alloc _) ⟨w11.heap.size, 0, none⟩ 1 1 [.int .i64 (1 + y7)] rfl rfl (cell_one_new _ _ _) (fun x hx => by simp at hx; subst hx; rfl) (by unfold maxLen; omega) (by omega) (by simp; omega) ?_; intro v' w12 hown12 hgrow12 hnil12; obtain ⟨hB12, hs12, fc12, ff12⟩ := app_after hown11 hgrow12 (Below.refl B w11) (Nat.le_refl _) (by omega); clear fc12 ff12 hgrow12 hnil12)
        have hS12 := hS11.below hB12 (by omega)
        have ho12 := ho11.below hB12 (by omega)
        have hR12 := hR11.below hB12 (by omega)
        have hKw12 : Kp s R w w12 := hKw11.trans ((Kp.of_below hB12).mono (by omega))
        go_roundw
        case rel => exact ⟨k - 1, n + 1, zs ++ [1 + y7], rfl, by omega, by omega, by omega, by omega, by rw [List.length_append, HZN.out]; rfl, by rw [List.map_append]; exact hown12, hS12, ho12, hR12, hKw12, by omega⟩
        case measure => simp [intOf]; omega
      · have hz' : decide (0 < k) = false := decide_eq_false hz
        have hO := OwnI.of_row (by rw [HZN.out]; exact hown)
        obtain ⟨x0, x1, x2, x3, x4, hrv⟩ := runsV_form zs
        have HRV := Lib.hid hrv
        clear hrv hown
        go_wp2_with fail
        refine (sMatrixOfRuns_c _ zs wr hO.inI (by rw [HZN.out]; omega)).mono ?_
        rintro e w10 ⟨rfl, b10⟩
        rw [HRV.out]
        have hq10 := b10.size
        have hS10 := hSr.below b10 (by omega)
        have ho10 := hor.below b10 (by omega)
        have hR10 := hRr.below b10 (by omega)
        have hKw10 : Kp s R w w10 := hKr.trans ((Kp.of_below b10).mono (by omega))
        clear hO b10 hSr hor hRr hKr
        obtain ⟨o0, o1, o2, o3, o4, o5⟩ := ho10
        obtain ⟨r0, r1, r2, r3, r4, r5⟩ := hR10
        simp only [] at o0 o1 o2 o3 r0 r1 r2 r3
        by_cases hx4 : x4 = 0
        · subst hx4
          go_wp2
          exact bodyPost_ret (v := .agg #[.int .i64 x0, .int .i64 x1, .int .i64 x2, .int .i64 x3]) (by simp only [results, Try.results52]; go_simp) rfl ⟨⟨x0, x1, x2, x3, rfl⟩, (by repeat' (first | (with_reducible assumption) | (with_reducible refine Src.drewN ?_ _) | (with_reducible refine Src.drew ?_) | (with_reducible refine Src.alloc ?_ _) | (with_reducible refine Src.setCell ?_ ?_ _) | (with_reducible refine Src.below ?_ (by with_reducible assumption) ?_) | go_size | (dsimp only; omega))), by rw [HRW.out]; exact (by repeat' (first | (with_reducible exact Kp.refl _ _ _) | (with_reducible assumption) | (with_reducible refine Kp.drewN ?_ _) | (with_reducible refine Kp.drew ?_) | (with_reducible refine Kp.alloc ?_ ?_ _) | (with_reducible refine Kp.setCell ?_ ?_ _) | (with_reducible refine Kp.trans ?_ (Kp.mono (by with_reducible assumption) ?_)) | (with_reducible refine Kp.trans ?_ (Kp.of_below (Below.mono (by with_reducible assumption) ?_))) | go_size | (dsimp only; omega)))⟩
        · have hx4' : (x4 == 0) = false := by simpa using hx4
          go_wp2
          exact bodyPost_ret (v := .agg #[.int .i64 p, .int .i64 q, .int .i64 r, .int .i64 t]) (by simp only [results, Try.results52]; go_simp) rfl ⟨⟨p, q, r, t, rfl⟩, (by repeat' (first | (with_reducible assumption) | (with_reducible refine Src.drewN ?_ _) | (with_reducible refine Src.drew ?_) | (with_reducible refine Src.alloc ?_ _) | (with_reducible refine Src.setCell ?_ ?_ _) | (with_reducible refine Src.below ?_ (by with_reducible assumption) ?_) | go_size | (dsimp only; omega))), by rw [HRW.out]; exact (by repeat' (first | (with_reducible exact Kp.refl _ _ _) | (with_reducible assumption) | (with_reducible refine Kp.drewN ?_ _) | (with_reducible refine Kp.drew ?_) | (with_reducible refine Kp.alloc ?_ ?_ _) | (with_reducible refine Kp.setCell ?_ ?_ _) | (with_reducible refine Kp.trans ?_ (Kp.mono (by with_reducible assumption) ?_)) | (with_reducible refine Kp.trans ?_ (Kp.of_below (Below.mono (by with_reducible assumption) ?_))) | go_size | (dsimp only; omega)))⟩
  · have hy' : (y == 0) = false := by simpa using hy
    obtain ⟨o0, o1, o2, o3, o4, o5⟩ := ho5
    obtain ⟨r0, r1, r2, r3, r4, r5⟩ := hR5
    simp only [] at o0 o1 o2 o3 r0 r1 r2 r3
    go_wp2
    exact bodyPost_ret (v := .agg #[.int .i64 p, .int .i64 q, .int .i64 r, .int .i64 t]) (by simp only [results, Try.results52]; go_simp) rfl ⟨⟨p, q, r, t, rfl⟩, (by repeat' (first | (with_reducible assumption) | (with_reducible refine Src.drewN ?_ _) | (with_reducible refine Src.drew ?_) | (with_reducible refine Src.alloc ?_ _) | (with_reducible refine Src.setCell ?_ ?_ _) | (with_reducible refine Src.below ?_ (by with_reducible assumption) ?_) | go_size | (dsimp only; omega))), by rw [HRW.out]; exact (by repeat' (first | (with_reducible exact Kp.refl _ _ _) | (with_reducible assumption) | (with_reducible refine Kp.drewN ?_ _) | (with_reducible refine Kp.drew ?_) | (with_reducible refine Kp.alloc ?_ ?_ _) | (with_reducible refine Kp.setCell ?_ ?_ _) | (with_reducible refine Kp.trans ?_ (Kp.mono (by with_reducible assumption) ?_)) | (with_reducible refine Kp.trans ?_ (Kp.of_below (Below.mono (by with_reducible assumption) ?_))) | go_size | (dsimp only; omega)))⟩
set_option maxHeartbeats 1000000 in
theorem drawPositiveWord_c (v : Value) (w : World) (hv : CodeV w v) :
    Calls Try.prog 17 #[v] w fun e w' => AnyM e ∧ Below w.heap.size w w' := by
  go_enter Try.func17, Try.ntmps17
  go_wp2_with fail
  refine (from_c v _ (hv.below (Below.alloc (Below.refl _ _) (Nat.le_refl _) _))).mono ?_
  rintro e w1 ⟨s, rfl, hs, hS1, b1⟩
  have hz1 := b1.size
  simp only [World.size_alloc] at hz1 hs
  have hsl := hS1.lt
  have zzb1 := b1.size; (try simp at zzb1); have zb1_0 : w.heap.size < w1.heap.size := (by omega); have kcb1_0 : ∀ o, w1.cell? ⟨w.heap.size, o, none⟩ = _ := fun o => b1.cell (p := ⟨w.heap.size, o, none⟩) (by go_size); have kfb1_0 : ∀ o, w1.frozen? ⟨w.heap.size, o, none⟩ = _ := fun o => b1.frozen (p := ⟨w.heap.size, o, none⟩) (by go_size); clear zzb1
  go_wp2_with fail
  refine (next_c s 4 _ hS1 (by omega) (by omega)).mono ?_
  rintro e w2 ⟨x, rfl, -, -, hS2, hK2⟩
  have hz2 := hK2.size
  have b2 := hK2.mono (Nat.le_of_lt hsl) |>.below (Nat.le_refl s)
  have zzhK2 := hK2.size; (try simp at zzhK2); have zhK2_0 : w.heap.size < w2.heap.size := (by omega); have kchK2_0 : ∀ o, w2.cell? ⟨w.heap.size, o, none⟩ = _ := fun o => hK2.cell (p := ⟨w.heap.size, o, none⟩) (by go_size) (by dsimp only; omega); have kfhK2_0 : ∀ o, w2.frozen? ⟨w.heap.size, o, none⟩ = _ := fun o => hK2.frozen (p := ⟨w.heap.size, o, none⟩) (by go_size) (by dsimp only; omega); clear zzhK2
  by_cases hx : 0 < x
  · have hx' : decide (0 < x) = true := decide_eq_true hx
    go_wp2_with fail
    refine (drawPositive_c s _ hS2).mono ?_
    rintro e w3 ⟨⟨p, q, r, t, rfl⟩, hS3, hK3⟩
    have hz3 := hK3.size
    have b3 := hK3.mono (Nat.le_of_lt hS2.lt) |>.below (Nat.le_refl s)
    have zzhK3 := hK3.size; (try simp at zzhK3); have zhK3_0 : w.heap.size < w3.heap.size := (by omega); have kchK3_0 : ∀ o, w3.cell? ⟨w.heap.size, o, none⟩ = _ := fun o => hK3.cell (p := ⟨w.heap.size, o, none⟩) (by go_size) (by dsimp only; omega); have kfhK3_0 : ∀ o, w3.frozen? ⟨w.heap.size, o, none⟩ = _ := fun o => hK3.frozen (p := ⟨w.heap.size, o, none⟩) (by go_size) (by dsimp only; omega); clear zzhK3
    go_wp2_with fail
    refine (bad_c s p q r t _ hS3).mono ?_
    rintro e w4 ⟨⟨p', q', r', t', rfl⟩, hS4, hK4⟩
    have hz4 := hK4.size
    have b4 := hK4.mono (Nat.le_of_lt hS3.lt) |>.below (Nat.le_refl s)
    have zzhK4 := hK4.size; (try simp at zzhK4); have zhK4_0 : w.heap.size < w4.heap.size := (by omega); have kchK4_0 : ∀ o, w4.cell? ⟨w.heap.size, o, none⟩ = _ := fun o => hK4.cell (p := ⟨w.heap.size, o, none⟩) (by go_size) (by dsimp only; omega); have kfhK4_0 : ∀ o, w4.frozen? ⟨w.heap.size, o, none⟩ = _ := fun o => hK4.frozen (p := ⟨w.heap.size, o, none⟩) (by go_size) (by dsimp only; omega); clear zzhK4
    go_wp2
    exact bodyPost_ret (v := .agg #[.int .i64 p', .int .i64 q', .int .i64 r', .int .i64 t']) (by simp only [results, Try.results17]; go_simp) rfl ⟨⟨p', q', r', t', rfl⟩, (by repeat' (first | (with_reducible exact Below.refl _ _) | (with_reducible assumption) | (with_reducible refine below_drewN ?_ _) | (with_reducible refine Below.drew ?_) | (with_reducible refine Below.alloc ?_ ?_ _) | (with_reducible refine Below.setCell ?_ ?_ _) | (with_reducible refine Below.trans ?_ (Below.mono (by with_reducible assumption) ?_)) | go_size | (dsimp only; omega)))⟩
  · have hx' : decide (0 < x) = false := decide_eq_false hx
    go_wp2_with fail
    refine (spoil_c s _ hS2).mono ?_
    rintro e w3 ⟨⟨p, q, r, t, rfl⟩, hS3, hK3⟩
    have hz3 := hK3.size
    have b3 := hK3.mono (Nat.le_of_lt hS2.lt) |>.below (Nat.le_refl s)
    have zzhK3 := hK3.size; (try simp at zzhK3); have zhK3_0 : w.heap.size < w3.heap.size := (by omega); have kchK3_0 : ∀ o, w3.cell? ⟨w.heap.size, o, none⟩ = _ := fun o => hK3.cell (p := ⟨w.heap.size, o, none⟩) (by go_size) (by dsimp only; omega); have kfhK3_0 : ∀ o, w3.frozen? ⟨w.heap.size, o, none⟩ = _ := fun o => hK3.frozen (p := ⟨w.heap.size, o, none⟩) (by go_size) (by dsimp only; omega); clear zzhK3
    go_wp2
    exact bodyPost_ret (v := .agg #[.int .i64 p, .int .i64 q, .int .i64 r, .int .i64 t]) (by simp only [results, Try.results17]; go_simp) rfl ⟨⟨p, q, r, t, rfl⟩, (by repeat' (first | (with_reducible exact Below.refl _ _) | (with_reducible assumption) | (with_reducible refine below_drewN ?_ _) | (with_reducible refine Below.drew ?_) | (with_reducible refine Below.alloc ?_ ?_ _) | (with_reducible refine Below.setCell ?_ ?_ _) | (with_reducible refine Below.trans ?_ (Below.mono (by with_reducible assumption) ?_)) | go_size | (dsimp only; omega)))⟩
end Go.Proofs.Ytgpnfjpnbchglaa
