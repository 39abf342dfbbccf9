/- Draws of matrices that may be spoilt, of words. -/
import Derived.Test.YtlkhhpckgcdeeaaGreatDoorGF
import Derived.Laws.IdiomStrings
import Derived.Test.YtlkhhpckgcdeeaaGreatDoorGQ
import Derived.Deep.RegionHeld3
namespace Go.Proofs.YtlkhhpckgcdeeaaGreatDoor
open Go.RowKit
set_option linter.unusedVariables false
set_option linter.unusedSimpArgs false
set_option maxHeartbeats 1000000 in
theorem spoil_c (s : Nat) (w : World) (hS : Src s w) :
    Calls Tryz.prog 64 #[.pointer (some ⟨s, 0, none⟩)] w fun e w' => AnyM e ∧ Src s w' ∧ Kp s w.heap.size w w' := by
  have hs := hS.lt
  go_enter Tryz.func64, Tryz.ntmps64
  go_wp2_with fail
  refine (draw_c s _ (by repeat' (first | (with_reducible assumption) | (with_reducible refine Src.drewN ?_ _) | (with_reducible refine Src.drew ?_) | (with_reducible refine Src.alloc ?_ _) | (with_reducible refine Src.setCell ?_ ?_ _) | (with_reducible refine Src.below ?_ (by with_reducible assumption) ?_) | go_size | (dsimp only; omega)))).mono ?_
  rintro e w1 ⟨a, b, c, d, rfl, hM, hS1, hK1⟩
  have hz1 := hK1.size
  simp only [World.size_alloc] at hz1
  have zzhK1 := hK1.size; (try simp at zzhK1); have zhK1_0 : w.heap.size < w1.heap.size := (by omega); have kchK1_0 : ∀ o, w1.cell? ⟨w.heap.size, o, none⟩ = _ := fun o => hK1.cell (p := ⟨w.heap.size, o, none⟩) (by go_size) (by dsimp only; omega); have kfhK1_0 : ∀ o, w1.frozen? ⟨w.heap.size, o, none⟩ = _ := fun o => hK1.frozen (p := ⟨w.heap.size, o, none⟩) (by go_size) (by dsimp only; omega); clear zzhK1
  go_wp2_with fail
  refine (bad_c s a b c d _ hS1).mono ?_
  rintro e w2 ⟨⟨p, q, r, t, rfl⟩, hS2, hK2⟩
  have hz2 := hK2.size
  have zzhK2 := hK2.size; (try simp at zzhK2); have zhK2_0 : w.heap.size < w2.heap.size := (by omega); have kchK2_0 : ∀ o, w2.cell? ⟨w.heap.size, o, none⟩ = _ := fun o => hK2.cell (p := ⟨w.heap.size, o, none⟩) (by go_size) (by dsimp only; omega); have kfhK2_0 : ∀ o, w2.frozen? ⟨w.heap.size, o, none⟩ = _ := fun o => hK2.frozen (p := ⟨w.heap.size, o, none⟩) (by go_size) (by dsimp only; omega); clear zzhK2
  go_wp2
  exact bodyPost_ret (v := .agg #[.int .i64 p, .int .i64 q, .int .i64 r, .int .i64 t]) (by simp only [results, Tryz.results64]; go_simp) rfl ⟨⟨p, q, r, t, rfl⟩, (by repeat' (first | (with_reducible assumption) | (with_reducible refine Src.drewN ?_ _) | (with_reducible refine Src.drew ?_) | (with_reducible refine Src.alloc ?_ _) | (with_reducible refine Src.setCell ?_ ?_ _) | (with_reducible refine Src.below ?_ (by with_reducible assumption) ?_) | go_size | (dsimp only; omega))), (by repeat' (first | (with_reducible exact Kp.refl _ _ _) | (with_reducible assumption) | (with_reducible refine Kp.drewN ?_ _) | (with_reducible refine Kp.drew ?_) | (with_reducible refine Kp.alloc ?_ ?_ _) | (with_reducible refine Kp.setCell ?_ ?_ _) | (with_reducible refine Kp.trans ?_ (Kp.mono (by with_reducible assumption) ?_)) | (with_reducible refine Kp.trans ?_ (Kp.of_below (Below.mono (by with_reducible assumption) ?_))) | go_size | (dsimp only; omega)))⟩
end Go.Proofs.YtlkhhpckgcdeeaaGreatDoor

/- Small draws: of numbers near a range, of a matrix and a number, of a matrix and a fraction, of names. -/
namespace Go.Proofs.YtlkhhpckgcdeeaaGreatDoor
open Go.RowKit
set_option linter.unusedVariables false
set_option linter.unusedSimpArgs false
set_option maxHeartbeats 1000000 in
theorem near_c (s : Nat) (m : Int) (w : World) (hS : Src s w) (h0 : 0 ≤ m) (h1 : m ≤ 100000) :
    Calls Tryz.prog 95 #[.pointer (some ⟨s, 0, none⟩), .int .i64 m] w fun e w' => ∃ x : Int, e = .returned (.int .i64 x) ∧ -4611686018427387904 ≤ x ∧ x ≤ 1099511627776 ∧ Src s w' ∧ Kp s w.heap.size w w' := by
  have hs := hS.lt
  go_enter Tryz.func95, Tryz.ntmps95
  go_wp2_with fail
  refine (next_c s 14 _ hS (by omega) (by omega)).mono ?_
  rintro e w1 ⟨x, rfl, hx0, hx1, hS1, hK1⟩
  have hz1 := hK1.size
  clear hx1
  by_cases h0 : x = 0
  · subst h0
    go_wp2_with fail
    refine (pick_c s _ _ [-1, m + 1, 1099511627776, -4611686018427387904] _ (hS1.alloc _) (by go_size) (by have := hS1.lt; omega) (rowI_alloc _ [-1, m + 1, 1099511627776, -4611686018427387904] _) (by simp) (by simp)).mono ?_
    rintro e w2 ⟨y, rfl, hy, hS2, hK2⟩
    have hyb : -4611686018427387904 ≤ y ∧ y ≤ 1099511627776 := by
      simp at hy
      omega
    have hz2 := hK2.size
    simp only [World.size_alloc] at hz2
    clear hy
    go_wp2
    go_returns
    exact ⟨y, rfl, hyb.1, hyb.2, hS2, (by repeat' (first | (with_reducible exact Kp.refl _ _ _) | (with_reducible assumption) | (with_reducible refine Kp.drewN ?_ _) | (with_reducible refine Kp.drew ?_) | (with_reducible refine Kp.alloc ?_ ?_ _) | (with_reducible refine Kp.setCell ?_ ?_ _) | (with_reducible refine Kp.trans ?_ (Kp.mono (by with_reducible assumption) ?_)) | (with_reducible refine Kp.trans ?_ (Kp.of_below (Below.mono (by with_reducible assumption) ?_))) | go_size | (dsimp only; omega)))⟩
  have h0' : (x == 0) = false := by simpa using h0
  go_wp2_with fail
  refine (next_c s (m + 1) _ hS1 (by omega) (by omega)).mono ?_
  rintro e w2 ⟨y, rfl, hy0, hy1, hS2, hK2⟩
  have hy2 := hy1 (by omega)
  go_wp2
  go_returns
  exact ⟨y, rfl, by omega, by omega, hS2, (by repeat' (first | (with_reducible exact Kp.refl _ _ _) | (with_reducible assumption) | (with_reducible refine Kp.drewN ?_ _) | (with_reducible refine Kp.drew ?_) | (with_reducible refine Kp.alloc ?_ ?_ _) | (with_reducible refine Kp.setCell ?_ ?_ _) | (with_reducible refine Kp.trans ?_ (Kp.mono (by with_reducible assumption) ?_)) | (with_reducible refine Kp.trans ?_ (Kp.of_below (Below.mono (by with_reducible assumption) ?_))) | go_size | (dsimp only; omega)))⟩
theorem drawMatricesWithin_c (v : Value) (w : World) (hv : CodeV w v) :
    Calls Tryz.prog 31 #[v] w fun e w' => ∃ x : Int, e = .returned (.int .i64 x) ∧ -4611686018427387904 ≤ x ∧ x ≤ 1099511627776 ∧ Below w.heap.size w w' := by
  go_enter Tryz.func31, Tryz.ntmps31
  go_wp2_with fail
  refine (from_c v _ hv).mono ?_
  rintro e w1 ⟨s, rfl, hs, hS1, b1⟩
  have hz1 := b1.size
  go_wp2_with fail
  refine (near_c s 3 _ hS1 (by omega) (by omega)).mono ?_
  rintro e w2 ⟨x, rfl, hx0, hx1, hS2, hK2⟩
  have b2 := (hK2.mono (Nat.le_of_lt hS1.lt)).below (Nat.le_refl s)
  go_wp2
  go_returns
  exact ⟨x, rfl, hx0, hx1, b1.trans (b2.mono hs)⟩
theorem drawCountModulo_c (v : Value) (w : World) (hv : CodeV w v) :
    Calls Tryz.prog 28 #[v] w fun e w' => ∃ x : Int, e = .returned (.int .i64 x) ∧ -4611686018427387904 ≤ x ∧ x ≤ 1099511627777 ∧ Below w.heap.size w w' := by
  go_enter Tryz.func28, Tryz.ntmps28
  go_wp2_with fail
  refine (from_c v _ hv).mono ?_
  rintro e w1 ⟨s, rfl, hs, hS1, b1⟩
  have hz1 := b1.size
  have hs1 := hS1.lt
  go_wp2_with fail
  refine (pick_c s _ _ [20, 999] _ (hS1.alloc _) (by go_size) (by omega) (rowI_alloc _ [20, 999] _) (by decide) (by decide)).mono ?_
  rintro e w2 ⟨m, rfl, hm, hS2, hK2⟩
  have hmb : 0 ≤ m ∧ m ≤ 1000 := by simp at hm; omega
  have hz2 := hK2.size
  simp only [World.size_alloc] at hz2
  have hb2 : Below w.heap.size w w2 := (Below.alloc b1 (by omega) _).trans ((hK2.mono (by simp only [World.size_alloc]; omega)).below hs)
  clear hm hK2
  go_wp2_with fail
  refine (near_c s m _ hS2 (by omega) (by omega)).mono ?_
  rintro e w3 ⟨x, rfl, hx0, hx1, hS3, hK3⟩
  have hb3 : Below w.heap.size w w3 := hb2.trans ((hK3.mono (by omega)).below hs)
  go_wp2
  go_returns
  exact ⟨1 + x, rfl, by omega, by omega, hb3⟩
theorem drawOrderOf_c (v : Value) (w : World) (hv : CodeV w v) :
    Calls Tryz.prog 51 #[v] w fun e w' => AnyM e ∧ Below w.heap.size w w' := by
  go_enter Tryz.func51, Tryz.ntmps51
  go_wp2_with fail
  refine (from_c v _ (hv.below (Below.alloc (Below.refl _ _) (Nat.le_refl _) _))).mono ?_
  rintro e w1 ⟨s, rfl, hs, hS1, b1⟩
  have hz1 := b1.size
  simp only [World.size_alloc] at hz1 hs
  have zzb1 := b1.size; (try simp at zzb1); have zb1_0 : w.heap.size < w1.heap.size := (by omega); have kcb1_0 : ∀ o, w1.cell? ⟨w.heap.size, o, none⟩ = _ := fun o => b1.cell (p := ⟨w.heap.size, o, none⟩) (by go_size); have kfb1_0 : ∀ o, w1.frozen? ⟨w.heap.size, o, none⟩ = _ := fun o => b1.frozen (p := ⟨w.heap.size, o, none⟩) (by go_size); clear zzb1
  go_wp2_with fail
  refine (spoil_c s _ hS1).mono ?_
  rintro e w2 ⟨⟨p, q, r, t, rfl⟩, hS2, hK2⟩
  have hz2 := hK2.size
  have b2 := hK2.mono (Nat.le_of_lt hS1.lt) |>.below (Nat.le_refl s)
  have zzhK2 := hK2.size; (try simp at zzhK2); have zhK2_0 : w.heap.size < w2.heap.size := (by omega); have kchK2_0 : ∀ o, w2.cell? ⟨w.heap.size, o, none⟩ = _ := fun o => hK2.cell (p := ⟨w.heap.size, o, none⟩) (by go_size) (by dsimp only; omega); have kfhK2_0 : ∀ o, w2.frozen? ⟨w.heap.size, o, none⟩ = _ := fun o => hK2.frozen (p := ⟨w.heap.size, o, none⟩) (by go_size) (by dsimp only; omega); clear zzhK2
  go_wp2
  exact bodyPost_ret (v := .agg #[.int .i64 p, .int .i64 q, .int .i64 r, .int .i64 t]) (by simp only [results, Tryz.results51]; go_simp) rfl ⟨⟨p, q, r, t, rfl⟩, (by repeat' (first | (with_reducible exact Below.refl _ _) | (with_reducible assumption) | (with_reducible refine below_drewN ?_ _) | (with_reducible refine Below.drew ?_) | (with_reducible refine Below.alloc ?_ ?_ _) | (with_reducible refine Below.setCell ?_ ?_ _) | (with_reducible refine Below.trans ?_ (Below.mono (by with_reducible assumption) ?_)) | go_size | (dsimp only; omega)))⟩
end Go.Proofs.YtlkhhpckgcdeeaaGreatDoor

/- Draws that end in a drawn region with calls. [genGS.py] -/
namespace Go.Proofs.YtlkhhpckgcdeeaaGreatDoor
open Go.RowKit
set_option linter.unusedVariables false
set_option linter.unusedSimpArgs false
set_option maxRecDepth 100000 in
set_option maxHeartbeats 4000000 in
theorem drawLeadFraction_c (v : Value) (w : World) (hv : CodeV w v) :
    Calls Tryz.prog 6 #[v] w fun e w' => ∃ p q r t x y : Int, e = .returned (.tuple #[.agg #[.int .i64 p, .int .i64 q, .int .i64 r, .int .i64 t], .agg #[.int .i64 x, .int .i64 y]]) ∧ Below w.heap.size w w' := by
  go_enter Tryz.func6, Tryz.ntmps6
  obtain ⟨R, hR⟩ : ∃ R, w.heap.size = R := ⟨_, rfl⟩
  have HRW := Lib.hid hR
  go_wp2_with fail
  generalize hw0 : World.alloc (World.alloc _ _) _ = w0
  have hA0 : M4At w0 R ⟨0, 0, 0, 0⟩ := by subst hw0; rw [← hR]; exact (m4At_alloc w 0 0 0 0 _).below (Below.alloc (Below.refl _ _) (Nat.le_refl _) _) (by simp)
  have hC0 : (∀ i, w0.frozen? ⟨R + 1, i, none⟩ = false) ∧ w0.cell? ⟨R + 1, 0, none⟩ = some (.int .i64 0) ∧ w0.cell? ⟨R + 1, 1, none⟩ = some (.int .i64 0) := by subst hw0 hR; exact ⟨by intro i; go_simp, by go_cell, by go_cell⟩
  have hB0 : Below R w w0 := by subst hw0; rw [← hR]; exact (by repeat' (first | (with_reducible exact Below.refl _ _) | (with_reducible assumption) | (with_reducible refine below_drewN ?_ _) | (with_reducible refine Below.drew ?_) | (with_reducible refine Below.alloc ?_ ?_ _) | (with_reducible refine Below.setCell ?_ ?_ _) | (with_reducible refine Below.trans ?_ (Below.mono (by with_reducible assumption) ?_)) | go_size | (dsimp only; omega)))
  have hq0 : R + 1 < w0.heap.size := by subst hw0; go_size
  obtain ⟨R1, hR1⟩ : ∃ R1, R + 1 = R1 := ⟨_, rfl⟩
  have hRR1 : R < R1 := by omega
  (try rw [hR1])
  rw [hR1] at hC0 hq0
  have HR1 := Lib.hid hR1
  clear hw0 hR1
  refine (from_c v w0 (by have h := hv.below (hR ▸ hB0); exact h)).mono ?_
  rintro e w1 ⟨s, rfl, hs, hS1, b1⟩
  have hq1 := b1.size
  have hsl := hS1.lt
  have hA1 := hA0.below b1 (by omega)
  obtain ⟨cf0, cc0, cc1⟩ := hC0
  have hB1 : Below R w w1 := hB0.trans (b1.mono (by omega))
  have cf1 : ∀ i, w1.frozen? ⟨R1, i, none⟩ = false := fun i => by rw [b1.frozen (p := ⟨R1, i, none⟩) (by dsimp only; omega)]; exact cf0 i
  have d0 : w1.cell? ⟨R1, 0, none⟩ = some (.int .i64 0) := by rw [b1.cell (p := ⟨R1, 0, none⟩) (by dsimp only; omega)]; exact cc0
  have d1 : w1.cell? ⟨R1, 1, none⟩ = some (.int .i64 0) := by rw [b1.cell (p := ⟨R1, 1, none⟩) (by dsimp only; omega)]; exact cc1
  clear hA0 cf0 cc0 cc1 hB0 b1 hR
  go_wp2_with fail
  refine (spoil_c s _ hS1).mono ?_
  rintro e w2 ⟨⟨p, q, r, t, rfl⟩, hS2, hK2⟩
  have hq2 := hK2.size
  have hA2 := hA1.kp hK2 (by omega) (by omega)
  have cf2 : ∀ i, w2.frozen? ⟨R1, i, none⟩ = false := fun i => by rw [hK2.frozen (p := ⟨R1, i, none⟩) (by dsimp only; omega) (by dsimp only; omega)]; exact cf1 i
  have d02 : w2.cell? ⟨R1, 0, none⟩ = some (.int .i64 0) := by rw [hK2.cell (p := ⟨R1, 0, none⟩) (by dsimp only; omega) (by dsimp only; omega)]; exact d0
  have d12 : w2.cell? ⟨R1, 1, none⟩ = some (.int .i64 0) := by rw [hK2.cell (p := ⟨R1, 1, none⟩) (by dsimp only; omega) (by dsimp only; omega)]; exact d1
  have hB2 : Below R w w2 := hB1.trans ((hK2.mono (by omega)).below (by omega))
  clear hA1 cf1 d0 d1 hB1 hS1 hK2
  go_wp2_with fail
  generalize hw3 : World.alloc _ _ = w3
  obtain ⟨bm, hbm⟩ : ∃ bm, w2.heap.size = bm := ⟨_, rfl⟩
  have hm3 : M4At w3 bm ⟨p, q, r, t⟩ := by subst hw3 hbm; exact m4At_alloc w2 p q r t _
  have bb3 : Below bm w2 w3 := by subst hw3 hbm; exact (by repeat' (first | (with_reducible exact Below.refl _ _) | (with_reducible assumption) | (with_reducible refine below_drewN ?_ _) | (with_reducible refine Below.drew ?_) | (with_reducible refine Below.alloc ?_ ?_ _) | (with_reducible refine Below.setCell ?_ ?_ _) | (with_reducible refine Below.trans ?_ (Below.mono (by with_reducible assumption) ?_)) | go_size | (dsimp only; omega)))
  have hq3 : bm < w3.heap.size := by subst hw3 hbm; simp
  have hS3 := hS2.below bb3 (by omega)
  have hA3 := hA2.below bb3 (by omega)
  have cf3 : ∀ i, w3.frozen? ⟨R1, i, none⟩ = false := fun i => by rw [bb3.frozen (p := ⟨R1, i, none⟩) (by dsimp only; omega)]; exact cf2 i
  have d03 : w3.cell? ⟨R1, 0, none⟩ = some (.int .i64 0) := by rw [bb3.cell (p := ⟨R1, 0, none⟩) (by dsimp only; omega)]; exact d02
  have d13 : w3.cell? ⟨R1, 1, none⟩ = some (.int .i64 0) := by rw [bb3.cell (p := ⟨R1, 1, none⟩) (by dsimp only; omega)]; exact d12
  have hB3 : Below R w w3 := hB2.trans (bb3.mono (by omega))
  have hsbm : s < bm := by omega
  (try rw [hbm])
  have hq3' : w2.heap.size ≤ bm := by omega
  clear hw3 hbm bb3 hS2 hA2 cf2 d02 d12 hB2
  obtain ⟨m0, m1, m2, m3, m4, m5⟩ := hm3
  obtain ⟨a0, a1, a2, a3, a4, a5⟩ := hA3
  simp only [] at m0 m1 m2 m3 a0 a1 a2 a3
  have hsl4 := hS3.lt
  go_region_held3 (fun w' => w'.cell? ⟨bm, 0, none⟩ = some (.int .i64 p) ∧ w'.cell? ⟨bm, 1, none⟩ = some (.int .i64 q) ∧ w'.cell? ⟨bm, 2, none⟩ = some (.int .i64 r) ∧ w'.cell? ⟨bm, 3, none⟩ = some (.int .i64 t)) (((try go_split_ands); (try (refine ⟨?_, ?_, ?_, ?_⟩)) <;> first | (with_reducible assumption) | ((try (with_reducible refine keep_drew ?_)); (repeat (with_reducible refine keep_set ?_ (by dsimp only; omega))); (with_reducible assumption)) | (with_reducible exact keep_drew (by with_reducible assumption)) | (with_reducible exact keep_new (by with_reducible assumption)) | (with_reducible exact keep_alloc (by with_reducible assumption) (by dsimp only; omega)) | (with_reducible exact keep_drew (keep_new (by with_reducible assumption))) | ((with_reducible refine keep_set ?_ (by dsimp only; omega)); (repeat (with_reducible refine keep_set ?_ (by dsimp only; omega))); first | (with_reducible assumption) | (with_reducible exact keep_drew (by with_reducible assumption))) | (go_keep; done))) (first | (go_at_call 66; refine (drawFraction_c s _ (by first | exact hS3 | exact hS3.drew | exact hS3.alloc _ | exact (hS3.alloc _).drew | exact hS3.drew.alloc _ | exact (hS3.drew.alloc _).drew | exact (by repeat' (first | (with_reducible assumption) | (with_reducible refine Src.drewN ?_ _) | (with_reducible refine Src.drew ?_) | (with_reducible refine Src.alloc ?_ _) | (with_reducible refine Src.setCell ?_ ?_ _) | (with_reducible refine Src.below ?_ (by with_reducible assumption) ?_) | go_size | (dsimp only; omega))))).mono ?_; rintro e w6 ⟨x, y, rfl, hF, hSx, hKx⟩; have zu := hKx.size; have bxu0 := hKx.mono (B' := R) (by go_size); have bxu := bxu0.below (show R ≤ s by omega); clear bxu0; (try simp only [World.size_alloc, World.size_drew] at zu); have zzhKx := hKx.size; (try simp at zzhKx); have zhKx_R0 : R < w6.heap.size := (by omega); have kchKx_R0 : ∀ o, w6.cell? ⟨R, o, none⟩ = _ := fun o => hKx.cell (p := ⟨R, o, none⟩) (by go_size) (by dsimp only; omega); have kfhKx_R0 : ∀ o, w6.frozen? ⟨R, o, none⟩ = _ := fun o => hKx.frozen (p := ⟨R, o, none⟩) (by go_size) (by dsimp only; omega); have zhKx_R10 : R1 < w6.heap.size := (by omega); have kchKx_R10 : ∀ o, w6.cell? ⟨R1, o, none⟩ = _ := fun o => hKx.cell (p := ⟨R1, o, none⟩) (by go_size) (by dsimp only; omega); have kfhKx_R10 : ∀ o, w6.frozen? ⟨R1, o, none⟩ = _ := fun o => hKx.frozen (p := ⟨R1, o, none⟩) (by go_size) (by dsimp only; omega); have zhKx_bm0 : bm < w6.heap.size := (by omega); have kchKx_bm0 : ∀ o, w6.cell? ⟨bm, o, none⟩ = _ := fun o => hKx.cell (p := ⟨bm, o, none⟩) (by go_size) (by dsimp only; omega); have kfhKx_bm0 : ∀ o, w6.frozen? ⟨bm, o, none⟩ = _ := fun o => hKx.frozen (p := ⟨bm, o, none⟩) (by go_size) (by dsimp only; omega); clear zzhKx; have nu0 : w6.cell? ⟨bm, 0, none⟩ = some (.int .i64 p) := (by rw [hKx.cell (p := ⟨bm, 0, none⟩) (by go_size) (by dsimp only; omega)]; first | assumption | (go_simp; done)); have nu1 : w6.cell? ⟨bm, 1, none⟩ = some (.int .i64 q) := (by rw [hKx.cell (p := ⟨bm, 1, none⟩) (by go_size) (by dsimp only; omega)]; first | assumption | (go_simp; done)); have nu2 : w6.cell? ⟨bm, 2, none⟩ = some (.int .i64 r) := (by rw [hKx.cell (p := ⟨bm, 2, none⟩) (by go_size) (by dsimp only; omega)]; first | assumption | (go_simp; done)); have nu3 : w6.cell? ⟨bm, 3, none⟩ = some (.int .i64 t) := (by rw [hKx.cell (p := ⟨bm, 3, none⟩) (by go_size) (by dsimp only; omega)]; first | assumption | (go_simp; done))) | (go_at_call 65; refine (badFraction_c s x y _ (by first | exact hSx | exact hSx.drew | exact (by repeat' (first | (with_reducible assumption) | (with_reducible refine Src.drewN ?_ _) | (with_reducible refine Src.drew ?_) | (with_reducible refine Src.alloc ?_ _) | (with_reducible refine Src.setCell ?_ ?_ _) | (with_reducible refine Src.below ?_ (by with_reducible assumption) ?_) | go_size | (dsimp only; omega)))) hF).mono ?_; rintro e w7 ⟨⟨x', y', rfl⟩, hSy, hKy⟩; have zv := hKy.size; have bxv0 := hKy.mono (B' := R) (by go_size); have bxv := bxv0.below (show R ≤ s by omega); clear bxv0; (try simp only [World.size_alloc, World.size_drew] at zv); have zzhKy := hKy.size; (try simp at zzhKy); have zhKy_R0 : R < w7.heap.size := (by omega); have kchKy_R0 : ∀ o, w7.cell? ⟨R, o, none⟩ = _ := fun o => hKy.cell (p := ⟨R, o, none⟩) (by go_size) (by dsimp only; omega); have kfhKy_R0 : ∀ o, w7.frozen? ⟨R, o, none⟩ = _ := fun o => hKy.frozen (p := ⟨R, o, none⟩) (by go_size) (by dsimp only; omega); have zhKy_R10 : R1 < w7.heap.size := (by omega); have kchKy_R10 : ∀ o, w7.cell? ⟨R1, o, none⟩ = _ := fun o => hKy.cell (p := ⟨R1, o, none⟩) (by go_size) (by dsimp only; omega); have kfhKy_R10 : ∀ o, w7.frozen? ⟨R1, o, none⟩ = _ := fun o => hKy.frozen (p := ⟨R1, o, none⟩) (by go_size) (by dsimp only; omega); have zhKy_bm0 : bm < w7.heap.size := (by omega); have kchKy_bm0 : ∀ o, w7.cell? ⟨bm, o, none⟩ = _ := fun o => hKy.cell (p := ⟨bm, o, none⟩) (by go_size) (by dsimp only; omega); have kfhKy_bm0 : ∀ o, w7.frozen? ⟨bm, o, none⟩ = _ := fun o => hKy.frozen (p := ⟨bm, o, none⟩) (by go_size) (by dsimp only; omega); clear zzhKy; have nv0 : w7.cell? ⟨bm, 0, none⟩ = some (.int .i64 p) := (by rw [hKy.cell (p := ⟨bm, 0, none⟩) (by go_size) (by dsimp only; omega)]; first | assumption | (go_simp; done)); have nv1 : w7.cell? ⟨bm, 1, none⟩ = some (.int .i64 q) := (by rw [hKy.cell (p := ⟨bm, 1, none⟩) (by go_size) (by dsimp only; omega)]; first | assumption | (go_simp; done)); have nv2 : w7.cell? ⟨bm, 2, none⟩ = some (.int .i64 r) := (by rw [hKy.cell (p := ⟨bm, 2, none⟩) (by go_size) (by dsimp only; omega)]; first | assumption | (go_simp; done)); have nv3 : w7.cell? ⟨bm, 3, none⟩ = some (.int .i64 t) := (by rw [hKy.cell (p := ⟨bm, 3, none⟩) (by go_size) (by dsimp only; omega)]; first | assumption | (go_simp; done))))
  all_goals (try go_split_ands)
  all_goals
    generalize hW : World.setCell _ _ _ = W5
    have r0' : W5.cell? ⟨R, 0, none⟩ = some (.int .i64 p) := by subst hW; go_simp
    have r1' : W5.cell? ⟨R, 1, none⟩ = some (.int .i64 q) := by subst hW; go_simp
    have r2' : W5.cell? ⟨R, 2, none⟩ = some (.int .i64 r) := by subst hW; go_simp
    have r3' : W5.cell? ⟨R, 3, none⟩ = some (.int .i64 t) := by subst hW; go_simp
    have s0' : W5.cell? ⟨R1, 0, none⟩ = some (.int .i64 x') := by subst hW; go_simp
    have s1' : W5.cell? ⟨R1, 1, none⟩ = some (.int .i64 y') := by subst hW; go_simp
    have hB5 : Below R w W5 := by subst hW; exact (by repeat' (first | (with_reducible exact Below.refl _ _) | (with_reducible assumption) | (with_reducible refine below_drewN ?_ _) | (with_reducible refine Below.drew ?_) | (with_reducible refine Below.alloc ?_ ?_ _) | (with_reducible refine Below.setCell ?_ ?_ _) | (with_reducible refine Below.trans ?_ (Below.mono (by with_reducible assumption) ?_)) | go_size | (dsimp only; omega)))
    clear hW
    (try clear hb)
    clear m0 m1 m2 m3 m4 m5 a0 a1 a2 a3 a4 a5
    go_wp2
    exact bodyPost_ret (v := .tuple #[.agg #[.int .i64 p, .int .i64 q, .int .i64 r, .int .i64 t], .agg #[.int .i64 x', .int .i64 y']]) (by simp only [results, Tryz.results6]; go_simp) rfl ⟨p, q, r, t, x', y', rfl, by rw [HRW.out]; exact (by repeat' (first | (with_reducible exact Below.refl _ _) | (with_reducible assumption) | (with_reducible refine below_drewN ?_ _) | (with_reducible refine Below.drew ?_) | (with_reducible refine Below.alloc ?_ ?_ _) | (with_reducible refine Below.setCell ?_ ?_ _) | (with_reducible refine Below.trans ?_ (Below.mono (by with_reducible assumption) ?_)) | go_size | (dsimp only; omega)))⟩
end Go.Proofs.YtlkhhpckgcdeeaaGreatDoor

/- Draws of two numbers, of a name. -/
namespace Go.Proofs.YtlkhhpckgcdeeaaGreatDoor
open Go.RowKit
set_option linter.unusedVariables false
set_option linter.unusedSimpArgs false
set_option maxRecDepth 100000 in
set_option maxHeartbeats 1000000 in
theorem drawFractionOf_c (v : Value) (w : World) (hv : CodeV w v) :
    Calls Tryz.prog 21 #[v] w fun e w' => ∃ p q : Int, e = .returned (.tuple #[.int .i64 p, .int .i64 q]) ∧ (-2000000000000000000 ≤ p ∧ p ≤ 2000000000000000000) ∧ (-2000000000000000000 ≤ q ∧ q ≤ 2000000000000000000) ∧ Below w.heap.size w w' := by
  go_enter Tryz.func21, Tryz.ntmps21
  go_wp2_with fail
  refine (from_c v _ hv).mono ?_
  rintro e w1 ⟨s, rfl, hs, hS1, b1⟩
  have hz1 := b1.size
  have hb1 : Below w.heap.size w w1 := (by repeat' (first | (with_reducible exact Below.refl _ _) | (with_reducible assumption) | (with_reducible refine below_drewN ?_ _) | (with_reducible refine Below.drew ?_) | (with_reducible refine Below.alloc ?_ ?_ _) | (with_reducible refine Below.setCell ?_ ?_ _) | (with_reducible refine Below.trans ?_ (Below.mono (by with_reducible assumption) ?_)) | go_size | (dsimp only; omega)))
  go_wp2_with fail
  refine (drawFraction_c s _ hS1).mono ?_
  rintro e w2 ⟨x, y, rfl, hF, hS2, hK2⟩
  have hz2 := hK2.size
  have hs1 := hS1.lt
  have hb2 : Below w.heap.size w w2 := hb1.trans ((hK2.mono (by omega)).below (by omega))
  clear hK2 b1 hb1 hS1
  obtain ⟨⟨x0, x1⟩, ⟨y0, y1⟩, -, -⟩ := isF_iff.mp hF
  clear hF
  go_wp2_with fail
  generalize hw4 : World.alloc (World.alloc _ _) _ = w4
  obtain ⟨bf, hbf⟩ : ∃ bf, w2.heap.size = bf := ⟨_, rfl⟩
  have f0 : w4.cell? ⟨bf, 0, none⟩ = some (.int .i64 x) := by subst hw4 hbf; go_simp
  have f1 : w4.cell? ⟨bf, 1, none⟩ = some (.int .i64 y) := by subst hw4 hbf; go_simp
  have hL4 : RowI w4 (bf + 1) 0 [1, -1, 2, -3, 0, 100, 2000000000] := by subst hw4; (have h := rowI_alloc (w2.alloc (Obj.cells #[.int .i64 x, .int .i64 y] 27)) [1, -1, 2, -3, 0, 100, 2000000000] 2); simpa [hbf] using h
  have hS4 : Src s w4 := by subst hw4; exact (by repeat' (first | (with_reducible assumption) | (with_reducible refine Src.drewN ?_ _) | (with_reducible refine Src.drew ?_) | (with_reducible refine Src.alloc ?_ _) | (with_reducible refine Src.setCell ?_ ?_ _) | (with_reducible refine Src.below ?_ (by with_reducible assumption) ?_) | go_size | (dsimp only; omega)))
  have hb4 : Below w.heap.size w w4 := by subst hw4; exact (by repeat' (first | (with_reducible exact Below.refl _ _) | (with_reducible assumption) | (with_reducible refine below_drewN ?_ _) | (with_reducible refine Below.drew ?_) | (with_reducible refine Below.alloc ?_ ?_ _) | (with_reducible refine Below.setCell ?_ ?_ _) | (with_reducible refine Below.trans ?_ (Below.mono (by with_reducible assumption) ?_)) | go_size | (dsimp only; omega)))
  have hz4 : bf + 1 < w4.heap.size := by subst hw4 hbf; go_size
  rw [hbf]
  clear hw4
  have hs4 : s < bf := by have := hS2.lt; omega
  clear hS2 hb2
  refine (pick_c s (bf + 1) _ [1, -1, 2, -3, 0, 100, 2000000000] _ hS4 hz4 (by omega) hL4 (by decide) (by decide)).mono ?_
  rintro e w3 ⟨n, rfl, hn, hS3, hK3⟩
  have hnx : (-2000000000000000000 ≤ x * n ∧ x * n ≤ 2000000000000000000) ∧ (-2000000000000000000 ≤ y * n ∧ y * n ≤ 2000000000000000000) := by
    simp at hn
    rcases hn with rfl | rfl | rfl | rfl | rfl | rfl | rfl <;> omega
  have hz3 := hK3.size
  have f30 : w3.cell? ⟨bf, 0, none⟩ = some (.int .i64 x) := by rw [hK3.cell (p := ⟨bf, 0, none⟩) (by dsimp only; omega) (by dsimp only; omega)]; exact f0
  have f31 : w3.cell? ⟨bf, 1, none⟩ = some (.int .i64 y) := by rw [hK3.cell (p := ⟨bf, 1, none⟩) (by dsimp only; omega) (by dsimp only; omega)]; exact f1
  have hb3 : Below w.heap.size w w3 := hb4.trans ((hK3.mono (by omega)).below (by omega))
  clear hn hK3 f0 f1 hL4 hS4 hb4 hS3
  obtain ⟨⟨u0, u1⟩, ⟨v0, v1⟩⟩ := hnx
  go_wp2
  go_quiet (fail)
  go_wp2
  exact bodyPost_ret (v := .tuple #[.int .i64 (x * n), .int .i64 (y * n)]) (by simp only [results, Tryz.results21]; go_simp) rfl ⟨x * n, y * n, rfl, ⟨u0, u1⟩, ⟨v0, v1⟩, (by repeat' (first | (with_reducible exact Below.refl _ _) | (with_reducible assumption) | (with_reducible refine below_drewN ?_ _) | (with_reducible refine Below.drew ?_) | (with_reducible refine Below.alloc ?_ ?_ _) | (with_reducible refine Below.setCell ?_ ?_ _) | (with_reducible refine Below.trans ?_ (Below.mono (by with_reducible assumption) ?_)) | go_size | (dsimp only; omega)))⟩
set_option maxRecDepth 100000 in
set_option maxHeartbeats 1000000 in
theorem drawNamedMatrix_c (v : Value) (w : World) (hv : CodeV w v) :
    Calls Tryz.prog 60 #[v] w fun e w' => ∃ str : ByteArray, e = .returned (.string str) ∧ str.size ≤ 2 ∧ Below w.heap.size w w' := by
  go_enter Tryz.func60, Tryz.ntmps60
  go_wp2_with fail
  refine (from_c v _ hv).mono ?_
  rintro e w1 ⟨s, rfl, hs, hS1, b1⟩
  have hz1 := b1.size
  have hb1 : Below w.heap.size w w1 := (by repeat' (first | (with_reducible exact Below.refl _ _) | (with_reducible assumption) | (with_reducible refine below_drewN ?_ _) | (with_reducible refine Below.drew ?_) | (with_reducible refine Below.alloc ?_ ?_ _) | (with_reducible refine Below.setCell ?_ ?_ _) | (with_reducible refine Below.trans ?_ (Below.mono (by with_reducible assumption) ?_)) | go_size | (dsimp only; omega)))
  clear b1
  go_wp2_with fail
  generalize hw4 : World.alloc _ _ = w4
  obtain ⟨bf, hbf⟩ : ∃ bf, w1.heap.size = bf := ⟨_, rfl⟩
  have hS4 : Src s w4 := by subst hw4; exact (by repeat' (first | (with_reducible assumption) | (with_reducible refine Src.drewN ?_ _) | (with_reducible refine Src.drew ?_) | (with_reducible refine Src.alloc ?_ _) | (with_reducible refine Src.setCell ?_ ?_ _) | (with_reducible refine Src.below ?_ (by with_reducible assumption) ?_) | go_size | (dsimp only; omega)))
  have hb4 : Below w.heap.size w w4 := by subst hw4; exact (by repeat' (first | (with_reducible exact Below.refl _ _) | (with_reducible assumption) | (with_reducible refine below_drewN ?_ _) | (with_reducible refine Below.drew ?_) | (with_reducible refine Below.alloc ?_ ?_ _) | (with_reducible refine Below.setCell ?_ ?_ _) | (with_reducible refine Below.trans ?_ (Below.mono (by with_reducible assumption) ?_)) | go_size | (dsimp only; omega)))
  have hz4 : bf < w4.heap.size := by subst hw4 hbf; go_size
  have hs4 : s < bf := by have := hS1.lt; omega
  have hc : ∀ j : Nat, j < 8 → ∃ str : ByteArray, w4.cell? ⟨bf, j, none⟩ = some (.string str) ∧ str.size ≤ 2 := by
    intro j hj
    subst hw4 hbf
    rcases (show j = 0 ∨ j = 1 ∨ j = 2 ∨ j = 3 ∨ j = 4 ∨ j = 5 ∨ j = 6 ∨ j = 7 by omega) with rfl | rfl | rfl | rfl | rfl | rfl | rfl | rfl
    · exact ⟨⟨#[83]⟩, by go_simp, by decide⟩
    · exact ⟨⟨#[84]⟩, by go_simp, by decide⟩
    · exact ⟨⟨#[76]⟩, by go_simp, by decide⟩
    · exact ⟨⟨#[85]⟩, by go_simp, by decide⟩
    · exact ⟨⟨#[73]⟩, by go_simp, by decide⟩
    · exact ⟨⟨#[]⟩, by go_simp, by decide⟩
    · exact ⟨⟨#[115]⟩, by go_simp, by decide⟩
    · exact ⟨⟨#[83, 84]⟩, by go_simp, by decide⟩
  rw [hbf]
  clear hw4 hS1 hb1
  refine (next_c s 8 _ hS4 (by omega) (by omega)).mono ?_
  rintro e w3 ⟨x, rfl, hx0, hx1, hS3, hK3⟩
  have hx2 := hx1 (by omega)
  obtain ⟨j, rfl⟩ : ∃ j : Nat, x = j := ⟨x.toNat, by omega⟩
  obtain ⟨str, hstr, hsz⟩ := hc j (by omega)
  have hc3 : w3.cell? ⟨bf, j, none⟩ = some (.string str) := by rw [hK3.cell (p := ⟨bf, j, none⟩) (by dsimp only; omega) (by dsimp only; omega)]; exact hstr
  have hb3 : Below w.heap.size w w3 := hb4.trans ((hK3.mono (by omega)).below (by omega))
  have hz3 := hK3.size
  clear hc hstr hS4 hb4 hK3 hx1
  go_wp2
  go_returns
  exact ⟨str, rfl, hsz, (by repeat' (first | (with_reducible exact Below.refl _ _) | (with_reducible assumption) | (with_reducible refine below_drewN ?_ _) | (with_reducible refine Below.drew ?_) | (with_reducible refine Below.alloc ?_ ?_ _) | (with_reducible refine Below.setCell ?_ ?_ _) | (with_reducible refine Below.trans ?_ (Below.mono (by with_reducible assumption) ?_)) | go_size | (dsimp only; omega)))⟩
end Go.Proofs.YtlkhhpckgcdeeaaGreatDoor
