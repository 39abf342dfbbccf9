/- Draws of runs, of two matrices. -/
import Derived.Test.YtgpnfjpnbchglaaGJ
import Derived.Test.YtgpnfjpnbchglaaAI
import Derived.Deep.RegionHeld3
namespace Go.Proofs.Ytgpnfjpnbchglaa
open Go.RowKit
set_option linter.unusedVariables false
set_option linter.unusedSimpArgs false
theorem ownI_setj {B g c j : Nat} {w : World} {zs : List Int} (x : Int) (hj : j < zs.length) (hb : B ≤ g) (hg : g < w.heap.size) (hr : RowI w g 0 zs) (hf : ∀ i, w.frozen? ⟨g, i, none⟩ = false) :
    OwnI B (w.setCell ⟨g, j, none⟩ (.int .i64 x)) (.slice (some ⟨g, 0, none⟩) zs.length c) (zs.set j x) := by
  refine .inr ⟨g, c, by rw [List.length_set], hb, by simpa using hg, ?_, ?_⟩
  · intro k hk
    rw [List.length_set] at hk
    have h1 := hr k hk
    have h2 := hr j hj
    rw [Nat.zero_add] at h1 h2 ⊢
    by_cases hk0 : k = j
    · subst hk0
      have e : (zs.set k x).getD k 0 = x := by simp [List.getD, hk]
      rw [e]
      clear e
      generalize zs.getD k 0 = y at h1 h2
      go_simp
    · have e : (zs.set j x).getD k 0 = zs.getD k 0 := by
        simp [List.getD, List.getElem?_set, Ne.symm hk0]
      rw [e]
      have hk3 : ¬ j = k := fun h => hk0 h.symm
      clear e
      generalize zs.getD k 0 = y at h1 ⊢
      generalize zs.getD j 0 = y2 at h2
      go_simp
  · intro i
    have := hf i
    go_simp
set_option maxRecDepth 100000 in
set_option maxHeartbeats 4000000 in
theorem drawMatrixOfRuns_c (v : Value) (w : World) (hv : CodeV w v) :
    Calls Try.prog 24 #[v] w fun e w' => ∃ (l : Value) (zs : List Int), e = .returned l ∧ OwnI w.heap.size w' l zs ∧ zs.length ≤ 1000 ∧ Below w.heap.size w w' := by
  obtain ⟨i0, hi, hz0, hz1, hz2⟩ := info_parts info_i64
  go_enter Try.func24, Try.ntmps24
  go_wp2_with fail
  refine (from_c v w hv).mono ?_
  rintro e w1 ⟨s, rfl, hs, hS1, b1⟩
  have hs1 := hS1.lt
  have hq1 := b1.size
  obtain ⟨B, hB⟩ : ∃ B, w1.heap.size = B := ⟨_, rfl⟩
  have hown0 := own_new w1 B 2 1 (by omega)
  rw [hB] at hown0
  go_wp2_with fail
  generalize hw2 : World.alloc (World.alloc _ _) _ = w2
  have hown2 : w2.ownsRow B 2 1 (.slice (some ⟨B, 0, none⟩) 0 0) 0 [] := by subst hw2; exact hown0.alloc _
  have hS2 : Src s w2 := by subst hw2; exact (by repeat' (first | (with_reducible assumption) | (with_reducible refine Src.drewN ?_ _) | (with_reducible refine Src.drew ?_) | (with_reducible refine Src.alloc ?_ _) | (with_reducible refine Src.setCell ?_ ?_ _) | (with_reducible refine Src.below ?_ (by with_reducible assumption) ?_) | go_size | (dsimp only; omega)))
  have hL2 : RowI w2 (B + 1) 0 [4, 8, 16] := by subst hw2; (have h := rowI_alloc (w1.alloc (Obj.cells #[] 2)) [4, 8, 16] 2); simpa [hB] using h
  have hb2 : Below w.heap.size w w2 := by subst hw2; exact (by repeat' (first | (with_reducible exact Below.refl _ _) | (with_reducible assumption) | (with_reducible refine below_drewN ?_ _) | (with_reducible refine Below.drew ?_) | (with_reducible refine Below.alloc ?_ ?_ _) | (with_reducible refine Below.setCell ?_ ?_ _) | (with_reducible refine Below.trans ?_ (Below.mono (by with_reducible assumption) ?_)) | go_size | (dsimp only; omega)))
  have hz2' : B + 1 < w2.heap.size := by subst hw2; go_size
  (try rw [hB])
  clear hw2 hown0
  refine (pick_c s (B + 1) _ [4, 8, 16] _ hS2 hz2' (by omega) hL2 (by decide) (by decide)).mono ?_
  rintro e w3 ⟨x, rfl, hx, hS3, hK3⟩
  have hxb : 1 ≤ x ∧ x ≤ 16 := by simp at hx; omega
  have hown3 := own_kp hown2 hK3 (by omega)
  have hz3 := hK3.size
  have hb3 : Below w.heap.size w w3 := hb2.trans ((hK3.mono (by omega)).below hs)
  clear hown2 hS2 hL2 hb2 hK3 hx
  go_wp2_with fail
  refine (next_c s x _ hS3 (by omega) (by omega)).mono ?_
  rintro e w4 ⟨y, rfl, hy0, hy1, hS4, hK4⟩
  have hy2 := hy1 (by omega)
  have hown4 := own_kp hown3 hK4 (by omega)
  have hz4 := hK4.size
  have hb4 : Below w.heap.size w w4 := hb3.trans ((hK4.mono (by omega)).below hs)
  clear hown3 hS3 hb3 hK4 hy1
  go_wp2
  go_loopw [4, 5] (fun vl vk wr => ∃ (k : Int) (n : Nat) (zs : List Int), vk = .int .i64 k ∧ 0 ≤ k ∧ k + n ≤ 16 ∧ zs.length = n ∧ wr.ownsRow B 2 1 vl n (zs.map (Value.int .i64)) ∧ Src s wr ∧ Below w.heap.size w wr ∧ B < wr.heap.size) (fun vl vk wr => (intOf vk).toNat)
  case atStart => exact ⟨y, 0, [], rfl, by omega, by omega, rfl, hown4, hS4, hb4, by omega⟩
  case round =>
    clear hown4 hS4 hb4
    obtain ⟨k, n, zs, rfl, hk0, hk1, hzn, hown, hSr, hBr, hzr⟩ := hrel
    have HZN := Lib.hid hzn
    clear hzn
    by_cases hz : 0 < k
    · have hz' : decide (0 < k) = true := decide_eq_true hz
      go_wp2_with fail
      refine (pick_c s _ _ [3, 9, 1000] _ (by repeat' (first | (with_reducible assumption) | (with_reducible refine Src.drewN ?_ _) | (with_reducible refine Src.drew ?_) | (with_reducible refine Src.alloc ?_ _) | (with_reducible refine Src.setCell ?_ ?_ _) | (with_reducible refine Src.below ?_ (by with_reducible assumption) ?_) | go_size | (dsimp only; omega))) (by go_size) (by first | (dsimp only; omega) | (simp; omega)) (rowI_alloc _ [3, 9, 1000] _) (by decide) (by decide)).mono ?_
      rintro e w6 ⟨x6, rfl, hx6, hS6, hK6⟩
      have hx6b : 1 ≤ x6 ∧ x6 ≤ 2000 := by simp at hx6; omega
      have hown6 := own_kp (hown.alloc _) hK6 (by omega)
      have hz6 := hK6.size
      simp only [World.size_alloc] at hz6
      have hb6 : Below w.heap.size w w6 := (Below.alloc hBr (by omega) _).trans ((hK6.mono (by simp only [World.size_alloc]; omega)).below hs)
      clear hown hSr hBr hK6 hx6
      go_wp2_with fail
      refine (next_c s x6 _ hS6 (by omega) (by omega)).mono ?_
      rintro e w7 ⟨y7, rfl, hy70, hy71, hS7, hK7⟩
      have hy72 := hy71 (by omega)
      have hown7 := own_kp hown6 hK7 (by omega)
      have hz7 := hK7.size
      have hb7 : Below w.heap.size w w7 := hb6.trans ((hK7.mono (by omega)).below hs)
      clear hown6 hS6 hb6 hK7 hy71
      go_wp2_with (at_builtin; refine wpList_append_own _ rfl _ _ 27 rfl B 2 i0 (.int .i64 0) 1 8 under_i64s hi hz0 hz1 hz2 rfl (by decide) _ _ _ rfl (hown7.alloc _) ⟨w7.heap.size, 0, none⟩ 1 1 [.int .i64 (1 + y7)] rfl rfl (cell_one_new _ _ _) (fun x hx => by simp at hx; subst hx; rfl) (by unfold maxLen; omega) (by omega) (by simp; omega) ?_; intro v' w8 hown8 hgrow8 hnil8; obtain ⟨hB8, hs8, fc8, ff8⟩ := app_after hown7 hgrow8 (Below.refl B w7) (Nat.le_refl _) (by omega); clear fc8 ff8 hgrow8 hnil8)
      have hS8 := hS7.below hB8 (by omega)
      have hb8 : Below w.heap.size w w8 := hb7.trans (hB8.mono (by omega))
      go_roundw
      case rel => exact ⟨k - 1, n + 1, zs ++ [1 + y7], rfl, by omega, by omega, by rw [List.length_append, HZN.out]; rfl, by rw [List.map_append]; exact hown8, hS8, hb8, by omega⟩
      case measure => simp [intOf]; omega
    · have hz' : decide (0 < k) = false := decide_eq_false hz
      have hO := OwnI.of_row (by rw [HZN.out]; exact hown)
      obtain ⟨va, ca, hva⟩ := own_form hown
      subst hva
      clear hown
      by_cases hn0 : n = 0
      · subst hn0
        have hzl : zs.length ≤ 1000 := by rw [HZN.out]; omega
        go_wp2
        exact bodyPost_ret (v := .slice va 0 ca) (by simp only [results, Try.results24]; go_simp) rfl ⟨.slice va 0 ca, rfl, zs, hO.base (B' := w.heap.size) (by omega), hzl, hBr⟩
      have hn1 : ((0 : Int) < (n : Int)) := by omega
      have hzl : zs.length ≤ 1000 := by rw [HZN.out]; omega
      go_wp2_with fail
      refine (next_c s 4 _ hSr (by omega) (by omega)).mono ?_
      rintro e w6 ⟨z, rfl, -, -, hS6, hK6⟩
      have hO6 := hO.kp hK6 (by omega)
      have hz6 := hK6.size
      have hb6 : Below w.heap.size w w6 := hBr.trans ((hK6.mono (by omega)).below hs)
      clear hO hSr hBr hK6
      by_cases h0 : z = 0
      · subst h0
        go_wp2_with fail
        refine (next_c s n _ hS6 (by omega) (by omega)).mono ?_
        rintro e w7 ⟨j', rfl, hj0, hj1, hS7, hK7⟩
        have hj2 := hj1 (by omega)
        obtain ⟨j, rfl⟩ : ∃ j : Nat, j' = j := ⟨j'.toNat, by omega⟩
        have hjn : j < n := by omega
        have hO7 := hO6.kp hK7 (by omega)
        have hz7 := hK7.size
        have hb7 : Below w.heap.size w w7 := hb6.trans ((hK7.mono (by omega)).below hs)
        clear hO6 hS6 hb6 hK7 hj1
        go_wp2_with fail
        generalize hw8 : World.alloc _ _ = w8
        have hL8 : RowI w8 w7.heap.size 0 [0, 0, -1, 1000000001, 1000000000] := by subst hw8; exact rowI_alloc w7 [0, 0, -1, 1000000001, 1000000000] 2
        have hS8 : Src s w8 := by subst hw8; exact hS7.alloc _
        have hO8 : OwnI B w8 (.slice va n ca) zs := by subst hw8; exact hO7.alloc _
        have hb8 : Below w.heap.size w w8 := by subst hw8; exact Below.alloc hb7 (by omega) _
        have hz8 : w7.heap.size < w8.heap.size := by subst hw8; go_size
        clear hw8 hS7 hO7 hb7
        refine (pick_c s w7.heap.size _ [0, 0, -1, 1000000001, 1000000000] _ hS8 hz8 (by omega) hL8 (by decide) (by decide)).mono ?_
        rintro e w9 ⟨x9, rfl, -, hS9, hK9⟩
        have hO9 := hO8.kp hK9 (by omega)
        have hb9 : Below w.heap.size w w9 := hb8.trans ((hK9.mono (by omega)).below hs)
        have hz9 := hK9.size
        clear hO8 hS8 hb8 hK9 hL8
        rcases hO9 with ⟨e0, -⟩ | ⟨g, c, hv', hg1, hg2, hrow, hfz⟩
        · exfalso; have := HZN.out; rw [e0] at this; simp at this; omega
        injection hv' with e1 e2 e3
        subst e1 e3
        have hO10 := ownI_setj (c := ca) x9 (show j < zs.length by rw [HZN.out]; exact hjn) hg1 hg2 hrow hfz
        rw [HZN.out] at hO10
        have q0 : w9.cell? ⟨g, j, none⟩ = some (.int .i64 (zs.getD j 0)) := by have := hrow j (by rw [HZN.out]; exact hjn); simpa using this
        have hf0 := hfz j
        have hb10 : Below w.heap.size w (w9.setCell ⟨g, j, none⟩ (.int .i64 x9)) := Below.setCell hb9 (by dsimp only; omega) _
        generalize zs.getD j 0 = y9 at q0
        clear hrow e2
        go_wp2
        go_returns
        exact ⟨_, zs.set j x9, rfl, hO10.base (B' := w.heap.size) (by omega), by rw [List.length_set]; exact hzl, hb10⟩
      · have h0' : (z == 0) = false := by simpa using h0
        go_wp2
        go_returns
        exact ⟨_, zs, rfl, hO6.base (B' := w.heap.size) (by omega), hzl, hb6⟩
def AnyMM (e : Ending) : Prop := ∃ p q r t p' q' r' t' : Int, e = .returned (.tuple #[.agg #[.int .i64 p, .int .i64 q, .int .i64 r, .int .i64 t], .agg #[.int .i64 p', .int .i64 q', .int .i64 r', .int .i64 t']])
theorem negative_any (p q r t : Int) (w : World) :
    Calls Try.prog 61 #[.agg #[.int .i64 p, .int .i64 q, .int .i64 r, .int .i64 t]] w fun e w' => AnyM e ∧ Below w.heap.size w w' := by
  go_enter Try.func61, Try.ntmps61
  go_wp2
  go_returns
  exact ⟨⟨_, _, _, _, rfl⟩, (by repeat' (first | (with_reducible exact Below.refl _ _) | (with_reducible assumption) | (with_reducible refine below_drewN ?_ _) | (with_reducible refine Below.drew ?_) | (with_reducible refine Below.alloc ?_ ?_ _) | (with_reducible refine Below.setCell ?_ ?_ _) | (with_reducible refine Below.trans ?_ (Below.mono (by with_reducible assumption) ?_)) | go_size | (dsimp only; omega)))⟩
set_option maxRecDepth 100000 in
set_option maxHeartbeats 4000000 in
theorem drawSignBetween_c (v : Value) (w : World) (hv : CodeV w v) :
    Calls Try.prog 27 #[v] w fun e w' => AnyMM e ∧ Below w.heap.size w w' := by
  go_enter Try.func27, Try.ntmps27
  obtain ⟨R, hR⟩ : ∃ R, w.heap.size = R := ⟨_, rfl⟩
  have HRW := Lib.hid hR
  go_wp2_with fail
  generalize hw0 : World.alloc (World.alloc _ _) _ = w0
  have hA0 : M4At w0 R ⟨0, 0, 0, 0⟩ := by subst hw0; rw [← hR]; exact (m4At_alloc w 0 0 0 0 _).below (Below.alloc (Below.refl _ _) (Nat.le_refl _) _) (by simp)
  have hC0 : M4At w0 (R + 1) ⟨0, 0, 0, 0⟩ := by subst hw0; (have h := m4At_alloc (w.alloc (Obj.cells #[.int .i64 0, .int .i64 0, .int .i64 0, .int .i64 0] 25)) 0 0 0 0 25); simpa [hR] using h
  have hB0 : Below R w w0 := by subst hw0; rw [← hR]; exact (by repeat' (first | (with_reducible exact Below.refl _ _) | (with_reducible assumption) | (with_reducible refine below_drewN ?_ _) | (with_reducible refine Below.drew ?_) | (with_reducible refine Below.alloc ?_ ?_ _) | (with_reducible refine Below.setCell ?_ ?_ _) | (with_reducible refine Below.trans ?_ (Below.mono (by with_reducible assumption) ?_)) | go_size | (dsimp only; omega)))
  have hq0 : R + 1 < w0.heap.size := by subst hw0; go_size
  obtain ⟨R1, hR1⟩ : ∃ R1, R + 1 = R1 := ⟨_, rfl⟩
  have hRR1 : R < R1 := by omega
  (try rw [hR1])
  rw [hR1] at hC0 hq0
  have HR1 := Lib.hid hR1
  clear hw0 hR1
  refine (from_c v w0 (by have h := hv.below (hR ▸ hB0); exact h)).mono ?_
  rintro e w1 ⟨s, rfl, hs, hS1, b1⟩
  have hq1 := b1.size
  have hA1 := hA0.below b1 (by omega)
  have hC1 := hC0.below b1 (by omega)
  have hB1 : Below R w w1 := hB0.trans (b1.mono (by omega))
  have hsl := hS1.lt
  clear hA0 hC0 hB0 b1 hR
  go_wp2_with fail
  refine (spoil_c s _ hS1).mono ?_
  rintro e w2 ⟨⟨p, q, r, t, rfl⟩, hS2, hK2⟩
  have hq2 := hK2.size
  have hA2 := hA1.kp hK2 (by omega) (by omega)
  have hC2 := hC1.kp hK2 (by omega) (by omega)
  have hB2 : Below R w w2 := hB1.trans ((hK2.mono (by omega)).below (by omega))
  clear hA1 hC1 hB1 hS1 hK2
  go_wp2_with fail
  generalize hw3 : World.alloc _ _ = w3
  obtain ⟨bm, hbm⟩ : ∃ bm, w2.heap.size = bm := ⟨_, rfl⟩
  have hm3 : M4At w3 bm ⟨p, q, r, t⟩ := by subst hw3 hbm; exact m4At_alloc w2 p q r t _
  have bb3 : Below bm w2 w3 := by subst hw3 hbm; exact (by repeat' (first | (with_reducible exact Below.refl _ _) | (with_reducible assumption) | (with_reducible refine below_drewN ?_ _) | (with_reducible refine Below.drew ?_) | (with_reducible refine Below.alloc ?_ ?_ _) | (with_reducible refine Below.setCell ?_ ?_ _) | (with_reducible refine Below.trans ?_ (Below.mono (by with_reducible assumption) ?_)) | go_size | (dsimp only; omega)))
  have hq3 : bm < w3.heap.size := by subst hw3 hbm; simp
  have hS3 := hS2.below bb3 (by omega)
  have hA3 := hA2.below bb3 (by omega)
  have hC3 := hC2.below bb3 (by omega)
  have hB3 : Below R w w3 := hB2.trans (bb3.mono (by omega))
  have hsbm : s < bm := by omega
  (try rw [hbm])
  have hq3' : w2.heap.size ≤ bm := by omega
  clear hw3 hbm bb3 hS2 hA2 hC2 hB2
  refine (next_c s 3 _ hS3 (by omega) (by omega)).mono ?_
  rintro e w4 ⟨x, rfl, -, -, hS4, hK4⟩
  have hq4 := hK4.size
  have hm4 := hm3.kp hK4 (by omega) (by omega)
  have hA4 := hA3.kp hK4 (by omega) (by omega)
  have hC4 := hC3.kp hK4 (by omega) (by omega)
  have hB4 : Below R w w4 := hB3.trans ((hK4.mono (by omega)).below (by omega))
  clear hm3 hA3 hC3 hB3 hS3 hK4
  obtain ⟨m0, m1, m2, m3, m4, m5⟩ := hm4
  obtain ⟨a0, a1, a2, a3, a4, a5⟩ := hA4
  obtain ⟨c0, c1, c2, c3, c4, c5⟩ := hC4
  simp only [] at m0 m1 m2 m3 a0 a1 a2 a3 c0 c1 c2 c3
  have hsl4 := hS4.lt
  by_cases h0 : x = 0
  · subst h0
    go_wp2
    go_region_held3 (fun w' => w'.cell? ⟨bm, 0, none⟩ = some (.int .i64 p) ∧ w'.cell? ⟨bm, 1, none⟩ = some (.int .i64 q) ∧ w'.cell? ⟨bm, 2, none⟩ = some (.int .i64 r) ∧ w'.cell? ⟨bm, 3, none⟩ = some (.int .i64 t)) (((try go_split_ands); (try (refine ⟨?_, ?_, ?_, ?_⟩)) <;> first | (with_reducible assumption) | ((try (with_reducible refine keep_drew ?_)); (repeat (with_reducible refine keep_set ?_ (by dsimp only; omega))); (with_reducible assumption)) | (with_reducible exact keep_drew (by with_reducible assumption)) | (with_reducible exact keep_new (by with_reducible assumption)) | (with_reducible exact keep_alloc (by with_reducible assumption) (by dsimp only; omega)) | (with_reducible exact keep_drew (keep_new (by with_reducible assumption))) | ((with_reducible refine keep_set ?_ (by dsimp only; omega)); (repeat (with_reducible refine keep_set ?_ (by dsimp only; omega))); first | (with_reducible assumption) | (with_reducible exact keep_drew (by with_reducible assumption))) | (go_keep; done))) (fail)
    all_goals (try go_split_ands)
    all_goals
      generalize hW : World.setCell _ _ _ = W5
      have r0' : W5.cell? ⟨R, 0, none⟩ = some (.int .i64 p) := by subst hW; go_simp
      have r1' : W5.cell? ⟨R, 1, none⟩ = some (.int .i64 q) := by subst hW; go_simp
      have r2' : W5.cell? ⟨R, 2, none⟩ = some (.int .i64 r) := by subst hW; go_simp
      have r3' : W5.cell? ⟨R, 3, none⟩ = some (.int .i64 t) := by subst hW; go_simp
      have s0' : W5.cell? ⟨R1, 0, none⟩ = some (.int .i64 p) := by subst hW; go_simp
      have s1' : W5.cell? ⟨R1, 1, none⟩ = some (.int .i64 q) := by subst hW; go_simp
      have s2' : W5.cell? ⟨R1, 2, none⟩ = some (.int .i64 r) := by subst hW; go_simp
      have s3' : W5.cell? ⟨R1, 3, none⟩ = some (.int .i64 t) := by subst hW; go_simp
      have hB5 : Below R w W5 := by subst hW; exact (by repeat' (first | (with_reducible exact Below.refl _ _) | (with_reducible assumption) | (with_reducible refine below_drewN ?_ _) | (with_reducible refine Below.drew ?_) | (with_reducible refine Below.alloc ?_ ?_ _) | (with_reducible refine Below.setCell ?_ ?_ _) | (with_reducible refine Below.trans ?_ (Below.mono (by with_reducible assumption) ?_)) | go_size | (dsimp only; omega)))
      clear hW
      (try clear hb) 
      clear m0 m1 m2 m3 m4 m5 a0 a1 a2 a3 a4 a5 c0 c1 c2 c3 c4 c5
      go_wp2
      exact bodyPost_ret (v := .tuple #[.agg #[.int .i64 p, .int .i64 q, .int .i64 r, .int .i64 t], .agg #[.int .i64 p, .int .i64 q, .int .i64 r, .int .i64 t]]) (by simp only [results, Try.results27]; go_simp) rfl ⟨⟨_, _, _, _, _, _, _, _, rfl⟩, by rw [HRW.out]; exact (by repeat' (first | (with_reducible exact Below.refl _ _) | (with_reducible assumption) | (with_reducible refine below_drewN ?_ _) | (with_reducible refine Below.drew ?_) | (with_reducible refine Below.alloc ?_ ?_ _) | (with_reducible refine Below.setCell ?_ ?_ _) | (with_reducible refine Below.trans ?_ (Below.mono (by with_reducible assumption) ?_)) | go_size | (dsimp only; omega)))⟩
  have h0' : (x == 0) = false := by simpa using h0
  by_cases h1 : x = 1
  · subst h1
    go_wp2
    go_region_held3 (fun w' => w'.cell? ⟨bm, 0, none⟩ = some (.int .i64 p) ∧ w'.cell? ⟨bm, 1, none⟩ = some (.int .i64 q) ∧ w'.cell? ⟨bm, 2, none⟩ = some (.int .i64 r) ∧ w'.cell? ⟨bm, 3, none⟩ = some (.int .i64 t)) (((try go_split_ands); (try (refine ⟨?_, ?_, ?_, ?_⟩)) <;> first | (with_reducible assumption) | ((try (with_reducible refine keep_drew ?_)); (repeat (with_reducible refine keep_set ?_ (by dsimp only; omega))); (with_reducible assumption)) | (with_reducible exact keep_drew (by with_reducible assumption)) | (with_reducible exact keep_new (by with_reducible assumption)) | (with_reducible exact keep_alloc (by with_reducible assumption) (by dsimp only; omega)) | (with_reducible exact keep_drew (keep_new (by with_reducible assumption))) | ((with_reducible refine keep_set ?_ (by dsimp only; omega)); (repeat (with_reducible refine keep_set ?_ (by dsimp only; omega))); first | (with_reducible assumption) | (with_reducible exact keep_drew (by with_reducible assumption))) | (go_keep; done))) (first | (go_at_call 61; refine (negative_any _ _ _ _ _).mono ?_; rintro e w6 ⟨⟨p', q', r', t', rfl⟩, hb⟩; have zq6 := hb.size; (try simp only [World.size_alloc, World.size_drew] at zq6); have zzhb := hb.size; (try simp at zzhb); have zhb_R0 : R < w6.heap.size := (by omega); have kchb_R0 : ∀ o, w6.cell? ⟨R, o, none⟩ = _ := fun o => hb.cell (p := ⟨R, o, none⟩) (by go_size); have kfhb_R0 : ∀ o, w6.frozen? ⟨R, o, none⟩ = _ := fun o => hb.frozen (p := ⟨R, o, none⟩) (by go_size); have zhb_R10 : R1 < w6.heap.size := (by omega); have kchb_R10 : ∀ o, w6.cell? ⟨R1, o, none⟩ = _ := fun o => hb.cell (p := ⟨R1, o, none⟩) (by go_size); have kfhb_R10 : ∀ o, w6.frozen? ⟨R1, o, none⟩ = _ := fun o => hb.frozen (p := ⟨R1, o, none⟩) (by go_size); clear zzhb; have n00 : w6.cell? ⟨bm, 0, none⟩ = some (.int .i64 p) := (by rw [hb.cell (p := ⟨bm, 0, none⟩) (by go_size)]; first | assumption | (go_simp; done)); have n01 : w6.cell? ⟨bm, 1, none⟩ = some (.int .i64 q) := (by rw [hb.cell (p := ⟨bm, 1, none⟩) (by go_size)]; first | assumption | (go_simp; done)); have n02 : w6.cell? ⟨bm, 2, none⟩ = some (.int .i64 r) := (by rw [hb.cell (p := ⟨bm, 2, none⟩) (by go_size)]; first | assumption | (go_simp; done)); have n03 : w6.cell? ⟨bm, 3, none⟩ = some (.int .i64 t) := (by rw [hb.cell (p := ⟨bm, 3, none⟩) (by go_size)]; first | assumption | (go_simp; done))))
    all_goals (try go_split_ands)
    all_goals
      generalize hW : World.setCell _ _ _ = W5
      have r0' : W5.cell? ⟨R, 0, none⟩ = some (.int .i64 p) := by subst hW; go_simp
      have r1' : W5.cell? ⟨R, 1, none⟩ = some (.int .i64 q) := by subst hW; go_simp
      have r2' : W5.cell? ⟨R, 2, none⟩ = some (.int .i64 r) := by subst hW; go_simp
      have r3' : W5.cell? ⟨R, 3, none⟩ = some (.int .i64 t) := by subst hW; go_simp
      have s0' : W5.cell? ⟨R1, 0, none⟩ = some (.int .i64 p') := by subst hW; go_simp
      have s1' : W5.cell? ⟨R1, 1, none⟩ = some (.int .i64 q') := by subst hW; go_simp
      have s2' : W5.cell? ⟨R1, 2, none⟩ = some (.int .i64 r') := by subst hW; go_simp
      have s3' : W5.cell? ⟨R1, 3, none⟩ = some (.int .i64 t') := by subst hW; go_simp
      have hB5 : Below R w W5 := by subst hW; exact (by repeat' (first | (with_reducible exact Below.refl _ _) | (with_reducible assumption) | (with_reducible refine below_drewN ?_ _) | (with_reducible refine Below.drew ?_) | (with_reducible refine Below.alloc ?_ ?_ _) | (with_reducible refine Below.setCell ?_ ?_ _) | (with_reducible refine Below.trans ?_ (Below.mono (by with_reducible assumption) ?_)) | go_size | (dsimp only; omega)))
      clear hW
      (try clear hb) 
      clear m0 m1 m2 m3 m4 m5 a0 a1 a2 a3 a4 a5 c0 c1 c2 c3 c4 c5
      go_wp2
      exact bodyPost_ret (v := .tuple #[.agg #[.int .i64 p, .int .i64 q, .int .i64 r, .int .i64 t], .agg #[.int .i64 p', .int .i64 q', .int .i64 r', .int .i64 t']]) (by simp only [results, Try.results27]; go_simp) rfl ⟨⟨_, _, _, _, _, _, _, _, rfl⟩, by rw [HRW.out]; exact (by repeat' (first | (with_reducible exact Below.refl _ _) | (with_reducible assumption) | (with_reducible refine below_drewN ?_ _) | (with_reducible refine Below.drew ?_) | (with_reducible refine Below.alloc ?_ ?_ _) | (with_reducible refine Below.setCell ?_ ?_ _) | (with_reducible refine Below.trans ?_ (Below.mono (by with_reducible assumption) ?_)) | go_size | (dsimp only; omega)))⟩
  have h1' : (x == 1) = false := by simpa using h1
  go_wp2
  go_region_held3 (fun w' => w'.cell? ⟨bm, 0, none⟩ = some (.int .i64 p) ∧ w'.cell? ⟨bm, 1, none⟩ = some (.int .i64 q) ∧ w'.cell? ⟨bm, 2, none⟩ = some (.int .i64 r) ∧ w'.cell? ⟨bm, 3, none⟩ = some (.int .i64 t)) (((try go_split_ands); (try (refine ⟨?_, ?_, ?_, ?_⟩)) <;> first | (with_reducible assumption) | ((try (with_reducible refine keep_drew ?_)); (repeat (with_reducible refine keep_set ?_ (by dsimp only; omega))); (with_reducible assumption)) | (with_reducible exact keep_drew (by with_reducible assumption)) | (with_reducible exact keep_new (by with_reducible assumption)) | (with_reducible exact keep_alloc (by with_reducible assumption) (by dsimp only; omega)) | (with_reducible exact keep_drew (keep_new (by with_reducible assumption))) | ((with_reducible refine keep_set ?_ (by dsimp only; omega)); (repeat (with_reducible refine keep_set ?_ (by dsimp only; omega))); first | (with_reducible assumption) | (with_reducible exact keep_drew (by with_reducible assumption))) | (go_keep; done))) (first | (go_at_call 31; refine (spoil_c s _ (by repeat' (first | (with_reducible assumption) | (with_reducible refine Src.drewN ?_ _) | (with_reducible refine Src.drew ?_) | (with_reducible refine Src.alloc ?_ _) | (with_reducible refine Src.setCell ?_ ?_ _) | (with_reducible refine Src.below ?_ (by with_reducible assumption) ?_) | go_size | (dsimp only; omega)))).mono ?_; rintro e w6 ⟨⟨p', q', r', t', rfl⟩, hSx, hKx⟩; have zq6 := hKx.size; have bx0 := hKx.mono (B' := R) (by go_size); have bx := bx0.below (show R ≤ s by omega); clear bx0; (try simp only [World.size_alloc, World.size_drew] at zq6); have zzhKx := hKx.size; (try simp at zzhKx); have zhKx_R0 : R < w6.heap.size := (by omega); have kchKx_R0 : ∀ o, w6.cell? ⟨R, o, none⟩ = _ := fun o => hKx.cell (p := ⟨R, o, none⟩) (by go_size) (by dsimp only; omega); have kfhKx_R0 : ∀ o, w6.frozen? ⟨R, o, none⟩ = _ := fun o => hKx.frozen (p := ⟨R, o, none⟩) (by go_size) (by dsimp only; omega); have zhKx_R10 : R1 < w6.heap.size := (by omega); have kchKx_R10 : ∀ o, w6.cell? ⟨R1, o, none⟩ = _ := fun o => hKx.cell (p := ⟨R1, o, none⟩) (by go_size) (by dsimp only; omega); have kfhKx_R10 : ∀ o, w6.frozen? ⟨R1, o, none⟩ = _ := fun o => hKx.frozen (p := ⟨R1, o, none⟩) (by go_size) (by dsimp only; omega); have zhKx_bm0 : bm < w6.heap.size := (by omega); have kchKx_bm0 : ∀ o, w6.cell? ⟨bm, o, none⟩ = _ := fun o => hKx.cell (p := ⟨bm, o, none⟩) (by go_size) (by dsimp only; omega); have kfhKx_bm0 : ∀ o, w6.frozen? ⟨bm, o, none⟩ = _ := fun o => hKx.frozen (p := ⟨bm, o, none⟩) (by go_size) (by dsimp only; omega); clear zzhKx; have n00 : w6.cell? ⟨bm, 0, none⟩ = some (.int .i64 p) := (by rw [hKx.cell (p := ⟨bm, 0, none⟩) (by go_size) (by dsimp only; omega)]; first | assumption | (go_simp; done)); have n01 : w6.cell? ⟨bm, 1, none⟩ = some (.int .i64 q) := (by rw [hKx.cell (p := ⟨bm, 1, none⟩) (by go_size) (by dsimp only; omega)]; first | assumption | (go_simp; done)); have n02 : w6.cell? ⟨bm, 2, none⟩ = some (.int .i64 r) := (by rw [hKx.cell (p := ⟨bm, 2, none⟩) (by go_size) (by dsimp only; omega)]; first | assumption | (go_simp; done)); have n03 : w6.cell? ⟨bm, 3, none⟩ = some (.int .i64 t) := (by rw [hKx.cell (p := ⟨bm, 3, none⟩) (by go_size) (by dsimp only; omega)]; first | assumption | (go_simp; done))))
  all_goals (try go_split_ands)
  all_goals
    generalize hW : World.setCell _ _ _ = W5
    have r0' : W5.cell? ⟨R, 0, none⟩ = some (.int .i64 p) := by subst hW; go_simp
    have r1' : W5.cell? ⟨R, 1, none⟩ = some (.int .i64 q) := by subst hW; go_simp
    have r2' : W5.cell? ⟨R, 2, none⟩ = some (.int .i64 r) := by subst hW; go_simp
    have r3' : W5.cell? ⟨R, 3, none⟩ = some (.int .i64 t) := by subst hW; go_simp
    have s0' : W5.cell? ⟨R1, 0, none⟩ = some (.int .i64 p') := by subst hW; go_simp
    have s1' : W5.cell? ⟨R1, 1, none⟩ = some (.int .i64 q') := by subst hW; go_simp
    have s2' : W5.cell? ⟨R1, 2, none⟩ = some (.int .i64 r') := by subst hW; go_simp
    have s3' : W5.cell? ⟨R1, 3, none⟩ = some (.int .i64 t') := by subst hW; go_simp
    have hB5 : Below R w W5 := by subst hW; exact (by repeat' (first | (with_reducible exact Below.refl _ _) | (with_reducible assumption) | (with_reducible refine below_drewN ?_ _) | (with_reducible refine Below.drew ?_) | (with_reducible refine Below.alloc ?_ ?_ _) | (with_reducible refine Below.setCell ?_ ?_ _) | (with_reducible refine Below.trans ?_ (Below.mono (by with_reducible assumption) ?_)) | go_size | (dsimp only; omega)))
    clear hW
    (try clear hb) 
    clear m0 m1 m2 m3 m4 m5 a0 a1 a2 a3 a4 a5 c0 c1 c2 c3 c4 c5
    go_wp2
    exact bodyPost_ret (v := .tuple #[.agg #[.int .i64 p, .int .i64 q, .int .i64 r, .int .i64 t], .agg #[.int .i64 p', .int .i64 q', .int .i64 r', .int .i64 t']]) (by simp only [results, Try.results27]; go_simp) rfl ⟨⟨_, _, _, _, _, _, _, _, rfl⟩, by rw [HRW.out]; exact (by repeat' (first | (with_reducible exact Below.refl _ _) | (with_reducible assumption) | (with_reducible refine below_drewN ?_ _) | (with_reducible refine Below.drew ?_) | (with_reducible refine Below.alloc ?_ ?_ _) | (with_reducible refine Below.setCell ?_ ?_ _) | (with_reducible refine Below.trans ?_ (Below.mono (by with_reducible assumption) ?_)) | go_size | (dsimp only; omega)))⟩
end Go.Proofs.Ytgpnfjpnbchglaa
