/- Draws of fractions. -/
import Derived.Test.YtlkhhpckgcdeeaaGreatDoorGE
import Derived.Test.YtlkhhpckgcdeeaaGreatDoorY
namespace Go.Proofs.YtlkhhpckgcdeeaaGreatDoor
open Go.RowKit
set_option linter.unusedVariables false
set_option linter.unusedSimpArgs false
def AnyQ (e : Ending) : Prop := ∃ x y : Int, e = .returned (.agg #[.int .i64 x, .int .i64 y])
theorem red_frac {p q : Int} (hp : ent p = true) (hq : ent q = true) (hz : ¬ (p = 0 ∧ q = 0)) : isF (redP p q) (redQ p q) = true := by
  have he := ediv_entK hp hq
  obtain ⟨a, b, k, g1, g2, g3, g4, g5⟩ := red_of hz
  have hm := red_mul (a := a) (b := b) (k := k) g1 g2 g3
  rw [← g4, ← g5] at hm
  rw [hm.1, hm.2] at he ⊢
  rw [Bool.and_eq_true] at he
  have i1 := ent_iff.mp he.1
  have i2 := ent_iff.mp he.2
  exact isF_iff.mpr ⟨i1, ⟨by omega, i2.2⟩, g1, by omega⟩
set_option maxRecDepth 100000 in
set_option maxHeartbeats 2000000 in
theorem drawFraction_c (s : Nat) (w : World) (hS : Src s w) :
    Calls Tryz.prog 66 #[.pointer (some ⟨s, 0, none⟩)] w fun e w' => ∃ x y : Int, e = .returned (.agg #[.int .i64 x, .int .i64 y]) ∧ isF x y = true ∧ Src s w' ∧ Kp s w.heap.size w w' := by
  have hs := hS.lt
  go_enter Tryz.func66, Tryz.ntmps66
  go_wp2_with fail
  refine (next_c s 6 _ (by repeat' (first | (with_reducible assumption) | (with_reducible refine Src.drewN ?_ _) | (with_reducible refine Src.drew ?_) | (with_reducible refine Src.alloc ?_ _) | (with_reducible refine Src.setCell ?_ ?_ _) | (with_reducible refine Src.below ?_ (by with_reducible assumption) ?_) | go_size | (dsimp only; omega))) (by omega) (by omega)).mono ?_
  rintro e w1 ⟨x, rfl, hx0, hx1, hS1, hK1⟩
  have hz1 := hK1.size
  simp only [World.size_alloc] at hz1
  have zzhK1 := hK1.size; (try simp at zzhK1); have zhK1_0 : w.heap.size < w1.heap.size := (by omega); have kchK1_0 : ∀ o, w1.cell? ⟨w.heap.size, o, none⟩ = _ := fun o => hK1.cell (p := ⟨w.heap.size, o, none⟩) (by go_size) (by dsimp only; omega); have kfhK1_0 : ∀ o, w1.frozen? ⟨w.heap.size, o, none⟩ = _ := fun o => hK1.frozen (p := ⟨w.heap.size, o, none⟩) (by go_size) (by dsimp only; omega); clear zzhK1
  have hKw1 : Kp s w.heap.size w w1 := (by repeat' (first | (with_reducible exact Kp.refl _ _ _) | (with_reducible assumption) | (with_reducible refine Kp.drewN ?_ _) | (with_reducible refine Kp.drew ?_) | (with_reducible refine Kp.alloc ?_ ?_ _) | (with_reducible refine Kp.setCell ?_ ?_ _) | (with_reducible refine Kp.trans ?_ (Kp.mono (by with_reducible assumption) ?_)) | (with_reducible refine Kp.trans ?_ (Kp.of_below (Below.mono (by with_reducible assumption) ?_))) | go_size | (dsimp only; omega)))
  clear hx1 hK1
  by_cases h0 : x = 0
  · subst h0
    go_wp2_with fail
    refine (pick_c s _ _ [1, 0, 1, -1] _ (by repeat' (first | (with_reducible assumption) | (with_reducible refine Src.drewN ?_ _) | (with_reducible refine Src.drew ?_) | (with_reducible refine Src.alloc ?_ _) | (with_reducible refine Src.setCell ?_ ?_ _) | (with_reducible refine Src.below ?_ (by with_reducible assumption) ?_) | go_size | (dsimp only; omega))) (by go_size) (by first | (dsimp only; omega) | (simp; omega)) (rowI_alloc _ [1, 0, 1, -1] _) (by decide) (by decide)).mono ?_
    rintro e w2 ⟨p, rfl, hp, hS2, hK2⟩
    have hpb : -1 ≤ p ∧ p ≤ 1 := by simp at hp; omega
    have hz2 := hK2.size
    simp only [World.size_alloc] at hz2
    have zzhK2 := hK2.size; (try simp at zzhK2); have zhK2_0 : w.heap.size < w2.heap.size := (by omega); have kchK2_0 : ∀ o, w2.cell? ⟨w.heap.size, o, none⟩ = _ := fun o => hK2.cell (p := ⟨w.heap.size, o, none⟩) (by go_size) (by dsimp only; omega); have kfhK2_0 : ∀ o, w2.frozen? ⟨w.heap.size, o, none⟩ = _ := fun o => hK2.frozen (p := ⟨w.heap.size, o, none⟩) (by go_size) (by dsimp only; omega); clear zzhK2
    have hKw2 : Kp s w.heap.size w w2 := (by repeat' (first | (with_reducible exact Kp.refl _ _ _) | (with_reducible assumption) | (with_reducible refine Kp.drewN ?_ _) | (with_reducible refine Kp.drew ?_) | (with_reducible refine Kp.alloc ?_ ?_ _) | (with_reducible refine Kp.setCell ?_ ?_ _) | (with_reducible refine Kp.trans ?_ (Kp.mono (by with_reducible assumption) ?_)) | (with_reducible refine Kp.trans ?_ (Kp.of_below (Below.mono (by with_reducible assumption) ?_))) | go_size | (dsimp only; omega)))
    clear hp hK2 hKw1
    go_wp2_with fail
    refine (pick_c s _ _ [0, 1, 1] _ (by repeat' (first | (with_reducible assumption) | (with_reducible refine Src.drewN ?_ _) | (with_reducible refine Src.drew ?_) | (with_reducible refine Src.alloc ?_ _) | (with_reducible refine Src.setCell ?_ ?_ _) | (with_reducible refine Src.below ?_ (by with_reducible assumption) ?_) | go_size | (dsimp only; omega))) (by go_size) (by first | (dsimp only; omega) | (simp; omega)) (rowI_alloc _ [0, 1, 1] _) (by decide) (by decide)).mono ?_
    rintro e w3 ⟨q, rfl, hq, hS3, hK3⟩
    have hqb : 0 ≤ q ∧ q ≤ 1 := by simp at hq; omega
    have hz3 := hK3.size
    simp only [World.size_alloc] at hz3
    have zzhK3 := hK3.size; (try simp at zzhK3); have zhK3_0 : w.heap.size < w3.heap.size := (by omega); have kchK3_0 : ∀ o, w3.cell? ⟨w.heap.size, o, none⟩ = _ := fun o => hK3.cell (p := ⟨w.heap.size, o, none⟩) (by go_size) (by dsimp only; omega); have kfhK3_0 : ∀ o, w3.frozen? ⟨w.heap.size, o, none⟩ = _ := fun o => hK3.frozen (p := ⟨w.heap.size, o, none⟩) (by go_size) (by dsimp only; omega); clear zzhK3
    have hKw3 : Kp s w.heap.size w w3 := (by repeat' (first | (with_reducible exact Kp.refl _ _ _) | (with_reducible assumption) | (with_reducible refine Kp.drewN ?_ _) | (with_reducible refine Kp.drew ?_) | (with_reducible refine Kp.alloc ?_ ?_ _) | (with_reducible refine Kp.setCell ?_ ?_ _) | (with_reducible refine Kp.trans ?_ (Kp.mono (by with_reducible assumption) ?_)) | (with_reducible refine Kp.trans ?_ (Kp.of_below (Below.mono (by with_reducible assumption) ?_))) | go_size | (dsimp only; omega)))
    have hs3 := hS3.lt
    clear hq hK3 hKw2
    by_cases hp0 : p = 0
    · subst hp0
      go_wp2_with fail
      refine (l01Reduced_c 0 1 _ (by omega) (by omega) (by omega) (by omega) (by omega)).mono ?_
      rintro e w4 ⟨rfl, b4⟩
      have hz4 := b4.size
      have zzb4 := b4.size; (try simp at zzb4); have zb4_0 : w.heap.size < w4.heap.size := (by omega); have kcb4_0 : ∀ o, w4.cell? ⟨w.heap.size, o, none⟩ = _ := fun o => b4.cell (p := ⟨w.heap.size, o, none⟩) (by go_size); have kfb4_0 : ∀ o, w4.frozen? ⟨w.heap.size, o, none⟩ = _ := fun o => b4.frozen (p := ⟨w.heap.size, o, none⟩) (by go_size); clear zzb4
      have hS4 := hS3.below b4 hs3
      have hKw4 : Kp s w.heap.size w w4 := hKw3.trans ((Kp.of_below b4).mono (by omega))
      have hF := red_frac (p := 0) (q := 1) (by decide) (by decide) (by omega)
      generalize redP 0 1 = a at *
      generalize redQ 0 1 = b at *
      go_wp2
      exact bodyPost_ret (v := .agg #[.int .i64 a, .int .i64 b]) (by simp only [results, Tryz.results66]; go_simp) rfl ⟨a, b, rfl, hF, (by repeat' (first | (with_reducible assumption) | (with_reducible refine Src.drewN ?_ _) | (with_reducible refine Src.drew ?_) | (with_reducible refine Src.alloc ?_ _) | (with_reducible refine Src.setCell ?_ ?_ _) | (with_reducible refine Src.below ?_ (by with_reducible assumption) ?_) | go_size | (dsimp only; omega))), (by repeat' (first | (with_reducible exact Kp.refl _ _ _) | (with_reducible assumption) | (with_reducible refine Kp.drewN ?_ _) | (with_reducible refine Kp.drew ?_) | (with_reducible refine Kp.alloc ?_ ?_ _) | (with_reducible refine Kp.setCell ?_ ?_ _) | (with_reducible refine Kp.trans ?_ (Kp.mono (by with_reducible assumption) ?_)) | (with_reducible refine Kp.trans ?_ (Kp.of_below (Below.mono (by with_reducible assumption) ?_))) | go_size | (dsimp only; omega)))⟩
    · have hp0' : (p == 0) = false := by simpa using hp0
      go_wp2_with fail
      refine (l01Reduced_c p q _ (by omega) (by omega) (by omega) (by omega) (by omega)).mono ?_
      rintro e w4 ⟨rfl, b4⟩
      have hz4 := b4.size
      have zzb4 := b4.size; (try simp at zzb4); have zb4_0 : w.heap.size < w4.heap.size := (by omega); have kcb4_0 : ∀ o, w4.cell? ⟨w.heap.size, o, none⟩ = _ := fun o => b4.cell (p := ⟨w.heap.size, o, none⟩) (by go_size); have kfb4_0 : ∀ o, w4.frozen? ⟨w.heap.size, o, none⟩ = _ := fun o => b4.frozen (p := ⟨w.heap.size, o, none⟩) (by go_size); clear zzb4
      have hS4 := hS3.below b4 hs3
      have hKw4 : Kp s w.heap.size w w4 := hKw3.trans ((Kp.of_below b4).mono (by omega))
      have hF := red_frac (p := p) (q := q) (ent_iff.mpr (by omega)) (ent_iff.mpr (by omega)) (by omega)
      generalize redP p q = a at *
      generalize redQ p q = b at *
      go_wp2
      exact bodyPost_ret (v := .agg #[.int .i64 a, .int .i64 b]) (by simp only [results, Tryz.results66]; go_simp) rfl ⟨a, b, rfl, hF, (by repeat' (first | (with_reducible assumption) | (with_reducible refine Src.drewN ?_ _) | (with_reducible refine Src.drew ?_) | (with_reducible refine Src.alloc ?_ _) | (with_reducible refine Src.setCell ?_ ?_ _) | (with_reducible refine Src.below ?_ (by with_reducible assumption) ?_) | go_size | (dsimp only; omega))), (by repeat' (first | (with_reducible exact Kp.refl _ _ _) | (with_reducible assumption) | (with_reducible refine Kp.drewN ?_ _) | (with_reducible refine Kp.drew ?_) | (with_reducible refine Kp.alloc ?_ ?_ _) | (with_reducible refine Kp.setCell ?_ ?_ _) | (with_reducible refine Kp.trans ?_ (Kp.mono (by with_reducible assumption) ?_)) | (with_reducible refine Kp.trans ?_ (Kp.of_below (Below.mono (by with_reducible assumption) ?_))) | go_size | (dsimp only; omega)))⟩
  have h0' : (x == 0) = false := by simpa using h0
  by_cases h1 : x = 1
  · subst h1
    go_wp2_with fail
    refine (next_c s 2000000 _ hS1 (by omega) (by omega)).mono ?_
    rintro e w2 ⟨y, rfl, hy0, hy1, hS2, hK2⟩
    have hy2 := hy1 (by omega)
    have hz2 := hK2.size
    have zzhK2 := hK2.size; (try simp at zzhK2); have zhK2_0 : w.heap.size < w2.heap.size := (by omega); have kchK2_0 : ∀ o, w2.cell? ⟨w.heap.size, o, none⟩ = _ := fun o => hK2.cell (p := ⟨w.heap.size, o, none⟩) (by go_size) (by dsimp only; omega); have kfhK2_0 : ∀ o, w2.frozen? ⟨w.heap.size, o, none⟩ = _ := fun o => hK2.frozen (p := ⟨w.heap.size, o, none⟩) (by go_size) (by dsimp only; omega); clear zzhK2
    have hKw2 : Kp s w.heap.size w w2 := (by repeat' (first | (with_reducible exact Kp.refl _ _ _) | (with_reducible assumption) | (with_reducible refine Kp.drewN ?_ _) | (with_reducible refine Kp.drew ?_) | (with_reducible refine Kp.alloc ?_ ?_ _) | (with_reducible refine Kp.setCell ?_ ?_ _) | (with_reducible refine Kp.trans ?_ (Kp.mono (by with_reducible assumption) ?_)) | (with_reducible refine Kp.trans ?_ (Kp.of_below (Below.mono (by with_reducible assumption) ?_))) | go_size | (dsimp only; omega)))
    clear hK2 hKw1 hy1
    go_wp2_with fail
    refine (next_c s 1000000 _ hS2 (by omega) (by omega)).mono ?_
    rintro e w3 ⟨z, rfl, hz0, hz1', hS3, hK3⟩
    have hz2' := hz1' (by omega)
    have hz3 := hK3.size
    have zzhK3 := hK3.size; (try simp at zzhK3); have zhK3_0 : w.heap.size < w3.heap.size := (by omega); have kchK3_0 : ∀ o, w3.cell? ⟨w.heap.size, o, none⟩ = _ := fun o => hK3.cell (p := ⟨w.heap.size, o, none⟩) (by go_size) (by dsimp only; omega); have kfhK3_0 : ∀ o, w3.frozen? ⟨w.heap.size, o, none⟩ = _ := fun o => hK3.frozen (p := ⟨w.heap.size, o, none⟩) (by go_size) (by dsimp only; omega); clear zzhK3
    have hKw3 : Kp s w.heap.size w w3 := (by repeat' (first | (with_reducible exact Kp.refl _ _ _) | (with_reducible assumption) | (with_reducible refine Kp.drewN ?_ _) | (with_reducible refine Kp.drew ?_) | (with_reducible refine Kp.alloc ?_ ?_ _) | (with_reducible refine Kp.setCell ?_ ?_ _) | (with_reducible refine Kp.trans ?_ (Kp.mono (by with_reducible assumption) ?_)) | (with_reducible refine Kp.trans ?_ (Kp.of_below (Below.mono (by with_reducible assumption) ?_))) | go_size | (dsimp only; omega)))
    have hs3 := hS3.lt
    clear hK3 hKw2 hz1'
    go_wp2_with fail
    refine (l01Reduced_c (y - 1000000) (1 + z) _ (by omega) (by omega) (by omega) (by omega) (by omega)).mono ?_
    rintro e w4 ⟨rfl, b4⟩
    have hz4 := b4.size
    have zzb4 := b4.size; (try simp at zzb4); have zb4_0 : w.heap.size < w4.heap.size := (by omega); have kcb4_0 : ∀ o, w4.cell? ⟨w.heap.size, o, none⟩ = _ := fun o => b4.cell (p := ⟨w.heap.size, o, none⟩) (by go_size); have kfb4_0 : ∀ o, w4.frozen? ⟨w.heap.size, o, none⟩ = _ := fun o => b4.frozen (p := ⟨w.heap.size, o, none⟩) (by go_size); clear zzb4
    have hS4 := hS3.below b4 hs3
    have hKw4 : Kp s w.heap.size w w4 := hKw3.trans ((Kp.of_below b4).mono (by omega))
    have hF := red_frac (p := y - 1000000) (q := 1 + z) (ent_iff.mpr (by omega)) (ent_iff.mpr (by omega)) (by omega)
    generalize redP (y - 1000000) (1 + z) = a at *
    generalize redQ (y - 1000000) (1 + z) = b at *
    go_wp2
    exact bodyPost_ret (v := .agg #[.int .i64 a, .int .i64 b]) (by simp only [results, Tryz.results66]; go_simp) rfl ⟨a, b, rfl, hF, (by repeat' (first | (with_reducible assumption) | (with_reducible refine Src.drewN ?_ _) | (with_reducible refine Src.drew ?_) | (with_reducible refine Src.alloc ?_ _) | (with_reducible refine Src.setCell ?_ ?_ _) | (with_reducible refine Src.below ?_ (by with_reducible assumption) ?_) | go_size | (dsimp only; omega))), (by repeat' (first | (with_reducible exact Kp.refl _ _ _) | (with_reducible assumption) | (with_reducible refine Kp.drewN ?_ _) | (with_reducible refine Kp.drew ?_) | (with_reducible refine Kp.alloc ?_ ?_ _) | (with_reducible refine Kp.setCell ?_ ?_ _) | (with_reducible refine Kp.trans ?_ (Kp.mono (by with_reducible assumption) ?_)) | (with_reducible refine Kp.trans ?_ (Kp.of_below (Below.mono (by with_reducible assumption) ?_))) | go_size | (dsimp only; omega)))⟩
  have h1' : (x == 1) = false := by simpa using h1
  go_wp2_with fail
  refine (next_c s 41 _ hS1 (by omega) (by omega)).mono ?_
  rintro e w2 ⟨y, rfl, hy0, hy1, hS2, hK2⟩
  have hy2 := hy1 (by omega)
  have hz2 := hK2.size
  have zzhK2 := hK2.size; (try simp at zzhK2); have zhK2_0 : w.heap.size < w2.heap.size := (by omega); have kchK2_0 : ∀ o, w2.cell? ⟨w.heap.size, o, none⟩ = _ := fun o => hK2.cell (p := ⟨w.heap.size, o, none⟩) (by go_size) (by dsimp only; omega); have kfhK2_0 : ∀ o, w2.frozen? ⟨w.heap.size, o, none⟩ = _ := fun o => hK2.frozen (p := ⟨w.heap.size, o, none⟩) (by go_size) (by dsimp only; omega); clear zzhK2
  have hKw2 : Kp s w.heap.size w w2 := (by repeat' (first | (with_reducible exact Kp.refl _ _ _) | (with_reducible assumption) | (with_reducible refine Kp.drewN ?_ _) | (with_reducible refine Kp.drew ?_) | (with_reducible refine Kp.alloc ?_ ?_ _) | (with_reducible refine Kp.setCell ?_ ?_ _) | (with_reducible refine Kp.trans ?_ (Kp.mono (by with_reducible assumption) ?_)) | (with_reducible refine Kp.trans ?_ (Kp.of_below (Below.mono (by with_reducible assumption) ?_))) | go_size | (dsimp only; omega)))
  clear hK2 hKw1 hy1
  go_wp2_with fail
  refine (next_c s 20 _ hS2 (by omega) (by omega)).mono ?_
  rintro e w3 ⟨z, rfl, hz0, hz1', hS3, hK3⟩
  have hz2' := hz1' (by omega)
  have hz3 := hK3.size
  have zzhK3 := hK3.size; (try simp at zzhK3); have zhK3_0 : w.heap.size < w3.heap.size := (by omega); have kchK3_0 : ∀ o, w3.cell? ⟨w.heap.size, o, none⟩ = _ := fun o => hK3.cell (p := ⟨w.heap.size, o, none⟩) (by go_size) (by dsimp only; omega); have kfhK3_0 : ∀ o, w3.frozen? ⟨w.heap.size, o, none⟩ = _ := fun o => hK3.frozen (p := ⟨w.heap.size, o, none⟩) (by go_size) (by dsimp only; omega); clear zzhK3
  have hKw3 : Kp s w.heap.size w w3 := (by repeat' (first | (with_reducible exact Kp.refl _ _ _) | (with_reducible assumption) | (with_reducible refine Kp.drewN ?_ _) | (with_reducible refine Kp.drew ?_) | (with_reducible refine Kp.alloc ?_ ?_ _) | (with_reducible refine Kp.setCell ?_ ?_ _) | (with_reducible refine Kp.trans ?_ (Kp.mono (by with_reducible assumption) ?_)) | (with_reducible refine Kp.trans ?_ (Kp.of_below (Below.mono (by with_reducible assumption) ?_))) | go_size | (dsimp only; omega)))
  have hs3 := hS3.lt
  clear hK3 hKw2 hz1'
  go_wp2_with fail
  refine (l01Reduced_c (y - 20) (1 + z) _ (by omega) (by omega) (by omega) (by omega) (by omega)).mono ?_
  rintro e w4 ⟨rfl, b4⟩
  have hz4 := b4.size
  have zzb4 := b4.size; (try simp at zzb4); have zb4_0 : w.heap.size < w4.heap.size := (by omega); have kcb4_0 : ∀ o, w4.cell? ⟨w.heap.size, o, none⟩ = _ := fun o => b4.cell (p := ⟨w.heap.size, o, none⟩) (by go_size); have kfb4_0 : ∀ o, w4.frozen? ⟨w.heap.size, o, none⟩ = _ := fun o => b4.frozen (p := ⟨w.heap.size, o, none⟩) (by go_size); clear zzb4
  have hS4 := hS3.below b4 hs3
  have hKw4 : Kp s w.heap.size w w4 := hKw3.trans ((Kp.of_below b4).mono (by omega))
  have hF := red_frac (p := y - 20) (q := 1 + z) (ent_iff.mpr (by omega)) (ent_iff.mpr (by omega)) (by omega)
  generalize redP (y - 20) (1 + z) = a at *
  generalize redQ (y - 20) (1 + z) = b at *
  go_wp2
  exact bodyPost_ret (v := .agg #[.int .i64 a, .int .i64 b]) (by simp only [results, Tryz.results66]; go_simp) rfl ⟨a, b, rfl, hF, (by repeat' (first | (with_reducible assumption) | (with_reducible refine Src.drewN ?_ _) | (with_reducible refine Src.drew ?_) | (with_reducible refine Src.alloc ?_ _) | (with_reducible refine Src.setCell ?_ ?_ _) | (with_reducible refine Src.below ?_ (by with_reducible assumption) ?_) | go_size | (dsimp only; omega))), (by repeat' (first | (with_reducible exact Kp.refl _ _ _) | (with_reducible assumption) | (with_reducible refine Kp.drewN ?_ _) | (with_reducible refine Kp.drew ?_) | (with_reducible refine Kp.alloc ?_ ?_ _) | (with_reducible refine Kp.setCell ?_ ?_ _) | (with_reducible refine Kp.trans ?_ (Kp.mono (by with_reducible assumption) ?_)) | (with_reducible refine Kp.trans ?_ (Kp.of_below (Below.mono (by with_reducible assumption) ?_))) | go_size | (dsimp only; omega)))⟩
set_option maxRecDepth 100000 in
set_option maxHeartbeats 800000 in
theorem badFraction_c (s : Nat) (p q : Int) (w : World) (hS : Src s w) (hF : isF p q = true) :
    Calls Tryz.prog 65 #[.pointer (some ⟨s, 0, none⟩), .agg #[.int .i64 p, .int .i64 q]] w fun e w' => AnyQ e ∧ Src s w' ∧ Kp s w.heap.size w w' := by
  have hs := hS.lt
  obtain ⟨⟨p0, p1⟩, ⟨q0, q1⟩, -, -⟩ := isF_iff.mp hF
  clear hF
  go_enter Tryz.func65, Tryz.ntmps65
  go_wp2_with fail
  refine (next_c s 40 _ (by repeat' (first | (with_reducible assumption) | (with_reducible refine Src.drewN ?_ _) | (with_reducible refine Src.drew ?_) | (with_reducible refine Src.alloc ?_ _) | (with_reducible refine Src.setCell ?_ ?_ _) | (with_reducible refine Src.below ?_ (by with_reducible assumption) ?_) | go_size | (dsimp only; omega))) (by omega) (by omega)).mono ?_
  rintro e w1 ⟨x, rfl, hx0, hx1, hS1, hK1⟩
  have hz1 := hK1.size
  simp only [World.size_alloc] at hz1
  have zzhK1 := hK1.size; (try simp at zzhK1); have zhK1_0 : w.heap.size < w1.heap.size := (by omega); have kchK1_0 : ∀ o, w1.cell? ⟨w.heap.size, o, none⟩ = _ := fun o => hK1.cell (p := ⟨w.heap.size, o, none⟩) (by go_size) (by dsimp only; omega); have kfhK1_0 : ∀ o, w1.frozen? ⟨w.heap.size, o, none⟩ = _ := fun o => hK1.frozen (p := ⟨w.heap.size, o, none⟩) (by go_size) (by dsimp only; omega); have zhK1_1 : w.heap.size + 1 < w1.heap.size := (by omega); have kchK1_1 : ∀ o, w1.cell? ⟨w.heap.size + 1, o, none⟩ = _ := fun o => hK1.cell (p := ⟨w.heap.size + 1, o, none⟩) (by go_size) (by dsimp only; omega); have kfhK1_1 : ∀ o, w1.frozen? ⟨w.heap.size + 1, o, none⟩ = _ := fun o => hK1.frozen (p := ⟨w.heap.size + 1, o, none⟩) (by go_size) (by dsimp only; omega); clear zzhK1
  have hKw1 : Kp s w.heap.size w w1 := (by repeat' (first | (with_reducible exact Kp.refl _ _ _) | (with_reducible assumption) | (with_reducible refine Kp.drewN ?_ _) | (with_reducible refine Kp.drew ?_) | (with_reducible refine Kp.alloc ?_ ?_ _) | (with_reducible refine Kp.setCell ?_ ?_ _) | (with_reducible refine Kp.trans ?_ (Kp.mono (by with_reducible assumption) ?_)) | (with_reducible refine Kp.trans ?_ (Kp.of_below (Below.mono (by with_reducible assumption) ?_))) | go_size | (dsimp only; omega)))
  clear hx1 hK1
  by_cases h0 : x = 0
  · subst h0
    go_wp2
    exact bodyPost_ret (v := .agg #[.int .i64 (2 * p), .int .i64 (2 * q)]) (by simp only [results, Tryz.results65]; go_simp) rfl ⟨⟨_, _, rfl⟩, (by repeat' (first | (with_reducible assumption) | (with_reducible refine Src.drewN ?_ _) | (with_reducible refine Src.drew ?_) | (with_reducible refine Src.alloc ?_ _) | (with_reducible refine Src.setCell ?_ ?_ _) | (with_reducible refine Src.below ?_ (by with_reducible assumption) ?_) | go_size | (dsimp only; omega))), (by repeat' (first | (with_reducible exact Kp.refl _ _ _) | (with_reducible assumption) | (with_reducible refine Kp.drewN ?_ _) | (with_reducible refine Kp.drew ?_) | (with_reducible refine Kp.alloc ?_ ?_ _) | (with_reducible refine Kp.setCell ?_ ?_ _) | (with_reducible refine Kp.trans ?_ (Kp.mono (by with_reducible assumption) ?_)) | (with_reducible refine Kp.trans ?_ (Kp.of_below (Below.mono (by with_reducible assumption) ?_))) | go_size | (dsimp only; omega)))⟩
  have h0' : (x == 0) = false := by simpa using h0
  by_cases h1 : x = 1
  · subst h1
    have f0 : w1.cell? ⟨w.heap.size, 0, none⟩ = some (.int .i64 p) := by rw [kchK1_0]; go_cell
    go_wp2
    go_region_held3 (fun w' => w'.cell? ⟨w.heap.size, 0, none⟩ = some (.int .i64 p)) (first | (with_reducible assumption) | (with_reducible exact keep_drew (by with_reducible assumption)) | (with_reducible exact keep_new (by with_reducible assumption)) | ((try (with_reducible refine keep_drew ?_)); (repeat (with_reducible refine keep_set ?_ (by dsimp only; omega))); (with_reducible assumption)) | (go_keep; done)) (first | (go_at_call 89; refine (pick_c s _ _ [-1, 0, 1000000001] _ (by first | exact hS1.alloc _ | exact (hS1.alloc _).drew | exact hS1.drew.alloc _ | exact (hS1.drew.alloc _).drew) (by go_size) (by first | (dsimp only; omega) | (simp; omega)) (by first | exact rowI_alloc _ [-1, 0, 1000000001] _ | exact RowI.drew (rowI_alloc _ [-1, 0, 1000000001] _)) (by decide) (by decide)).mono ?_; rintro e w2 ⟨y, rfl, -, hS2, hK2⟩; have zq2 := hK2.size; (try simp only [World.size_alloc, World.size_drew] at zq2); have zzhK2 := hK2.size; (try simp at zzhK2); have zhK2_0 : w.heap.size < w2.heap.size := (by omega); have kchK2_0 : ∀ o, w2.cell? ⟨w.heap.size, o, none⟩ = _ := fun o => hK2.cell (p := ⟨w.heap.size, o, none⟩) (by go_size) (by dsimp only; omega); have kfhK2_0 : ∀ o, w2.frozen? ⟨w.heap.size, o, none⟩ = _ := fun o => hK2.frozen (p := ⟨w.heap.size, o, none⟩) (by go_size) (by dsimp only; omega); have zhK2_1 : w.heap.size + 1 < w2.heap.size := (by omega); have kchK2_1 : ∀ o, w2.cell? ⟨w.heap.size + 1, o, none⟩ = _ := fun o => hK2.cell (p := ⟨w.heap.size + 1, o, none⟩) (by go_size) (by dsimp only; omega); have kfhK2_1 : ∀ o, w2.frozen? ⟨w.heap.size + 1, o, none⟩ = _ := fun o => hK2.frozen (p := ⟨w.heap.size + 1, o, none⟩) (by go_size) (by dsimp only; omega); clear zzhK2; have n00 : w2.cell? ⟨w.heap.size, 0, none⟩ = some (.int .i64 p) := (by rw [hK2.cell (p := ⟨w.heap.size, 0, none⟩) (by go_size) (by dsimp only; omega)]; first | assumption | (go_simp; done))))
    all_goals (try go_split_ands)
    all_goals
      go_wp2
      exact bodyPost_ret (v := .agg #[.int .i64 p, .int .i64 y]) (by simp only [results, Tryz.results65]; go_simp) rfl ⟨⟨_, _, rfl⟩, (by repeat' (first | (with_reducible assumption) | (with_reducible refine Src.drewN ?_ _) | (with_reducible refine Src.drew ?_) | (with_reducible refine Src.alloc ?_ _) | (with_reducible refine Src.setCell ?_ ?_ _) | (with_reducible refine Src.below ?_ (by with_reducible assumption) ?_) | go_size | (dsimp only; omega))), (by repeat' (first | (with_reducible exact Kp.refl _ _ _) | (with_reducible assumption) | (with_reducible refine Kp.drewN ?_ _) | (with_reducible refine Kp.drew ?_) | (with_reducible refine Kp.alloc ?_ ?_ _) | (with_reducible refine Kp.setCell ?_ ?_ _) | (with_reducible refine Kp.trans ?_ (Kp.mono (by with_reducible assumption) ?_)) | (with_reducible refine Kp.trans ?_ (Kp.of_below (Below.mono (by with_reducible assumption) ?_))) | go_size | (dsimp only; omega)))⟩
  have h1' : (x == 1) = false := by simpa using h1
  by_cases h2 : x = 2
  · subst h2
    go_wp2_with fail
    refine (pick_c s _ _ [0, -1] _ (by repeat' (first | (with_reducible assumption) | (with_reducible refine Src.drewN ?_ _) | (with_reducible refine Src.drew ?_) | (with_reducible refine Src.alloc ?_ _) | (with_reducible refine Src.setCell ?_ ?_ _) | (with_reducible refine Src.below ?_ (by with_reducible assumption) ?_) | go_size | (dsimp only; omega))) (by go_size) (by first | (dsimp only; omega) | (simp; omega)) (rowI_alloc _ [0, -1] _) (by decide) (by decide)).mono ?_
    rintro e w2 ⟨y, rfl, -, hS2, hK2⟩
    have hz2 := hK2.size
    simp only [World.size_alloc] at hz2
    have zzhK2 := hK2.size; (try simp at zzhK2); have zhK2_0 : w.heap.size < w2.heap.size := (by omega); have kchK2_0 : ∀ o, w2.cell? ⟨w.heap.size, o, none⟩ = _ := fun o => hK2.cell (p := ⟨w.heap.size, o, none⟩) (by go_size) (by dsimp only; omega); have kfhK2_0 : ∀ o, w2.frozen? ⟨w.heap.size, o, none⟩ = _ := fun o => hK2.frozen (p := ⟨w.heap.size, o, none⟩) (by go_size) (by dsimp only; omega); have zhK2_1 : w.heap.size + 1 < w2.heap.size := (by omega); have kchK2_1 : ∀ o, w2.cell? ⟨w.heap.size + 1, o, none⟩ = _ := fun o => hK2.cell (p := ⟨w.heap.size + 1, o, none⟩) (by go_size) (by dsimp only; omega); have kfhK2_1 : ∀ o, w2.frozen? ⟨w.heap.size + 1, o, none⟩ = _ := fun o => hK2.frozen (p := ⟨w.heap.size + 1, o, none⟩) (by go_size) (by dsimp only; omega); clear zzhK2
    go_wp2
    exact bodyPost_ret (v := .agg #[.int .i64 y, .int .i64 0]) (by simp only [results, Tryz.results65]; go_simp) rfl ⟨⟨_, _, rfl⟩, (by repeat' (first | (with_reducible assumption) | (with_reducible refine Src.drewN ?_ _) | (with_reducible refine Src.drew ?_) | (with_reducible refine Src.alloc ?_ _) | (with_reducible refine Src.setCell ?_ ?_ _) | (with_reducible refine Src.below ?_ (by with_reducible assumption) ?_) | go_size | (dsimp only; omega))), (by repeat' (first | (with_reducible exact Kp.refl _ _ _) | (with_reducible assumption) | (with_reducible refine Kp.drewN ?_ _) | (with_reducible refine Kp.drew ?_) | (with_reducible refine Kp.alloc ?_ ?_ _) | (with_reducible refine Kp.setCell ?_ ?_ _) | (with_reducible refine Kp.trans ?_ (Kp.mono (by with_reducible assumption) ?_)) | (with_reducible refine Kp.trans ?_ (Kp.of_below (Below.mono (by with_reducible assumption) ?_))) | go_size | (dsimp only; omega)))⟩
  have h2' : (x == 2) = false := by simpa using h2
  go_wp2
  exact bodyPost_ret (v := .agg #[.int .i64 p, .int .i64 q]) (by simp only [results, Tryz.results65]; go_simp) rfl ⟨⟨_, _, rfl⟩, (by repeat' (first | (with_reducible assumption) | (with_reducible refine Src.drewN ?_ _) | (with_reducible refine Src.drew ?_) | (with_reducible refine Src.alloc ?_ _) | (with_reducible refine Src.setCell ?_ ?_ _) | (with_reducible refine Src.below ?_ (by with_reducible assumption) ?_) | go_size | (dsimp only; omega))), (by repeat' (first | (with_reducible exact Kp.refl _ _ _) | (with_reducible assumption) | (with_reducible refine Kp.drewN ?_ _) | (with_reducible refine Kp.drew ?_) | (with_reducible refine Kp.alloc ?_ ?_ _) | (with_reducible refine Kp.setCell ?_ ?_ _) | (with_reducible refine Kp.trans ?_ (Kp.mono (by with_reducible assumption) ?_)) | (with_reducible refine Kp.trans ?_ (Kp.of_below (Below.mono (by with_reducible assumption) ?_))) | go_size | (dsimp only; omega)))⟩
end Go.Proofs.YtlkhhpckgcdeeaaGreatDoor
