/- Draws of matrices. -/
import Derived.Test.YtlkhhpckgcdeeaaGreatDoorGE
import Derived.Test.YtlkhhpckgcdeeaaGreatDoorPD
namespace Go.Proofs.YtlkhhpckgcdeeaaGreatDoor
open Go.RowKit
set_option linter.unusedVariables false
set_option linter.unusedSimpArgs false
/-- what a draw of a matrix says -/
def AnyM (e : Ending) : Prop := ∃ p q r t : Int, e = .returned (.agg #[.int .i64 p, .int .i64 q, .int .i64 r, .int .i64 t])
set_option maxHeartbeats 1000000 in
theorem small_c (s : Nat) (w : World) (hS : Src s w) :
    Calls Tryz.prog 105 #[.pointer (some ⟨s, 0, none⟩)] w fun e w' => ∃ a b c d : Int, e = .returned (.agg #[.int .i64 a, .int .i64 b, .int .i64 c, .int .i64 d]) ∧ isM a b c d = true ∧ Src s w' ∧ Kp s w.heap.size w w' := by
  have hs := hS.lt
  go_enter Tryz.func105, Tryz.ntmps105
  go_wp2_with fail
  refine (next_c s 4 _ (by repeat' (first | (with_reducible assumption) | (with_reducible refine Src.drewN ?_ _) | (with_reducible refine Src.drew ?_) | (with_reducible refine Src.alloc ?_ _) | (with_reducible refine Src.setCell ?_ ?_ _) | (with_reducible refine Src.below ?_ (by with_reducible assumption) ?_) | go_size | (dsimp only; omega))) (by omega) (by omega)).mono ?_
  rintro e w1 ⟨x, rfl, hx0, hx1, hS1, hK1⟩
  have hx2 := hx1 (by omega)
  have hz1 := hK1.size
  simp only [World.size_alloc] at hz1
  have zzhK1 := hK1.size; (try simp at zzhK1); have zhK1_0 : w.heap.size < w1.heap.size := (by omega); have kchK1_0 : ∀ o, w1.cell? ⟨w.heap.size, o, none⟩ = _ := fun o => hK1.cell (p := ⟨w.heap.size, o, none⟩) (by go_size) (by dsimp only; omega); have kfhK1_0 : ∀ o, w1.frozen? ⟨w.heap.size, o, none⟩ = _ := fun o => hK1.frozen (p := ⟨w.heap.size, o, none⟩) (by go_size) (by dsimp only; omega); clear zzhK1
  go_wp2_with fail
  refine (drawWord_c s x _ hS1 (by omega) (by omega)).mono ?_
  rintro e w2 ⟨a, b, c, d, rfl, hM, hS2, hK2⟩
  have hz2 := hK2.size
  have zzhK2 := hK2.size; (try simp at zzhK2); have zhK2_0 : w.heap.size < w2.heap.size := (by omega); have kchK2_0 : ∀ o, w2.cell? ⟨w.heap.size, o, none⟩ = _ := fun o => hK2.cell (p := ⟨w.heap.size, o, none⟩) (by go_size) (by dsimp only; omega); have kfhK2_0 : ∀ o, w2.frozen? ⟨w.heap.size, o, none⟩ = _ := fun o => hK2.frozen (p := ⟨w.heap.size, o, none⟩) (by go_size) (by dsimp only; omega); clear zzhK2
  go_wp2
  exact bodyPost_ret (v := .agg #[.int .i64 a, .int .i64 b, .int .i64 c, .int .i64 d]) (by simp only [results, Tryz.results105]; go_simp) rfl ⟨a, b, c, d, rfl, hM, (by repeat' (first | (with_reducible assumption) | (with_reducible refine Src.drewN ?_ _) | (with_reducible refine Src.drew ?_) | (with_reducible refine Src.alloc ?_ _) | (with_reducible refine Src.setCell ?_ ?_ _) | (with_reducible refine Src.below ?_ (by with_reducible assumption) ?_) | go_size | (dsimp only; omega))), (by repeat' (first | (with_reducible exact Kp.refl _ _ _) | (with_reducible assumption) | (with_reducible refine Kp.drewN ?_ _) | (with_reducible refine Kp.drew ?_) | (with_reducible refine Kp.alloc ?_ ?_ _) | (with_reducible refine Kp.setCell ?_ ?_ _) | (with_reducible refine Kp.trans ?_ (Kp.mono (by with_reducible assumption) ?_)) | (with_reducible refine Kp.trans ?_ (Kp.of_below (Below.mono (by with_reducible assumption) ?_))) | go_size | (dsimp only; omega)))⟩
set_option maxRecDepth 100000 in
set_option maxHeartbeats 4000000 in
theorem bad_c (s : Nat) (p q r t : Int) (w : World) (hS : Src s w) :
    Calls Tryz.prog 81 #[.pointer (some ⟨s, 0, none⟩), .agg #[.int .i64 p, .int .i64 q, .int .i64 r, .int .i64 t]] w fun e w' => AnyM e ∧ Src s w' ∧ Kp s w.heap.size w w' := by
  have hs := hS.lt
  go_enter Tryz.func81, Tryz.ntmps81
  go_wp2_with fail
  refine (next_c s 50 _ (by repeat' (first | (with_reducible assumption) | (with_reducible refine Src.drewN ?_ _) | (with_reducible refine Src.drew ?_) | (with_reducible refine Src.alloc ?_ _) | (with_reducible refine Src.setCell ?_ ?_ _) | (with_reducible refine Src.below ?_ (by with_reducible assumption) ?_) | go_size | (dsimp only; omega))) (by omega) (by omega)).mono ?_
  rintro e w1 ⟨x, rfl, hx0, hx1, hS1, hK1⟩
  have hx2 := hx1 (by omega)
  have hz1 := hK1.size
  simp only [World.size_alloc] at hz1
  have zzhK1 := hK1.size; (try simp at zzhK1); have zhK1_0 : w.heap.size < w1.heap.size := (by omega); have kchK1_0 : ∀ o, w1.cell? ⟨w.heap.size, o, none⟩ = _ := fun o => hK1.cell (p := ⟨w.heap.size, o, none⟩) (by go_size) (by dsimp only; omega); have kfhK1_0 : ∀ o, w1.frozen? ⟨w.heap.size, o, none⟩ = _ := fun o => hK1.frozen (p := ⟨w.heap.size, o, none⟩) (by go_size) (by dsimp only; omega); have zhK1_1 : w.heap.size + 1 < w1.heap.size := (by omega); have kchK1_1 : ∀ o, w1.cell? ⟨w.heap.size + 1, o, none⟩ = _ := fun o => hK1.cell (p := ⟨w.heap.size + 1, o, none⟩) (by go_size) (by dsimp only; omega); have kfhK1_1 : ∀ o, w1.frozen? ⟨w.heap.size + 1, o, none⟩ = _ := fun o => hK1.frozen (p := ⟨w.heap.size + 1, o, none⟩) (by go_size) (by dsimp only; omega); clear zzhK1
  have hKw1 : Kp s w.heap.size w w1 := (by repeat' (first | (with_reducible exact Kp.refl _ _ _) | (with_reducible assumption) | (with_reducible refine Kp.drewN ?_ _) | (with_reducible refine Kp.drew ?_) | (with_reducible refine Kp.alloc ?_ ?_ _) | (with_reducible refine Kp.setCell ?_ ?_ _) | (with_reducible refine Kp.trans ?_ (Kp.mono (by with_reducible assumption) ?_)) | (with_reducible refine Kp.trans ?_ (Kp.of_below (Below.mono (by with_reducible assumption) ?_))) | go_size | (dsimp only; omega)))
  by_cases hx : x = 0
  · subst hx
    go_wp2_with fail
    refine (next_c s 4 _ (by repeat' (first | (with_reducible assumption) | (with_reducible refine Src.drewN ?_ _) | (with_reducible refine Src.drew ?_) | (with_reducible refine Src.alloc ?_ _) | (with_reducible refine Src.setCell ?_ ?_ _) | (with_reducible refine Src.below ?_ (by with_reducible assumption) ?_) | go_size | (dsimp only; omega))) (by omega) (by omega)).mono ?_
    rintro e w2 ⟨y, rfl, hy0, hy1, hS2, hK2⟩
    have hy2 := hy1 (by omega)
    have hz2 := hK2.size
    have zzhK2 := hK2.size; (try simp at zzhK2); have zhK2_0 : w.heap.size < w2.heap.size := (by omega); have kchK2_0 : ∀ o, w2.cell? ⟨w.heap.size, o, none⟩ = _ := fun o => hK2.cell (p := ⟨w.heap.size, o, none⟩) (by go_size) (by dsimp only; omega); have kfhK2_0 : ∀ o, w2.frozen? ⟨w.heap.size, o, none⟩ = _ := fun o => hK2.frozen (p := ⟨w.heap.size, o, none⟩) (by go_size) (by dsimp only; omega); have zhK2_1 : w.heap.size + 1 < w2.heap.size := (by omega); have kchK2_1 : ∀ o, w2.cell? ⟨w.heap.size + 1, o, none⟩ = _ := fun o => hK2.cell (p := ⟨w.heap.size + 1, o, none⟩) (by go_size) (by dsimp only; omega); have kfhK2_1 : ∀ o, w2.frozen? ⟨w.heap.size + 1, o, none⟩ = _ := fun o => hK2.frozen (p := ⟨w.heap.size + 1, o, none⟩) (by go_size) (by dsimp only; omega); clear zzhK2
    have hKw2 : Kp s w.heap.size w w2 := (by repeat' (first | (with_reducible exact Kp.refl _ _ _) | (with_reducible assumption) | (with_reducible refine Kp.drewN ?_ _) | (with_reducible refine Kp.drew ?_) | (with_reducible refine Kp.alloc ?_ ?_ _) | (with_reducible refine Kp.setCell ?_ ?_ _) | (with_reducible refine Kp.trans ?_ (Kp.mono (by with_reducible assumption) ?_)) | (with_reducible refine Kp.trans ?_ (Kp.of_below (Below.mono (by with_reducible assumption) ?_))) | go_size | (dsimp only; omega)))
    go_wp2_with fail
    refine (pick_c s _ _ [0, 2, 1000000001, -4611686018427387904] _ (by repeat' (first | (with_reducible assumption) | (with_reducible refine Src.drewN ?_ _) | (with_reducible refine Src.drew ?_) | (with_reducible refine Src.alloc ?_ _) | (with_reducible refine Src.setCell ?_ ?_ _) | (with_reducible refine Src.below ?_ (by with_reducible assumption) ?_) | go_size | (dsimp only; omega))) (by go_size) (by first | (dsimp only; omega) | (simp; omega)) (rowI_alloc _ [0, 2, 1000000001, -4611686018427387904] _) (by decide) (by decide)).mono ?_
    rintro e w3 ⟨z, rfl, hz, hS3, hK3⟩
    have hz3 := hK3.size
    simp only [World.size_alloc] at hz3
    have zzhK3 := hK3.size; (try simp at zzhK3); have zhK3_0 : w.heap.size < w3.heap.size := (by omega); have kchK3_0 : ∀ o, w3.cell? ⟨w.heap.size, o, none⟩ = _ := fun o => hK3.cell (p := ⟨w.heap.size, o, none⟩) (by go_size) (by dsimp only; omega); have kfhK3_0 : ∀ o, w3.frozen? ⟨w.heap.size, o, none⟩ = _ := fun o => hK3.frozen (p := ⟨w.heap.size, o, none⟩) (by go_size) (by dsimp only; omega); have zhK3_1 : w.heap.size + 1 < w3.heap.size := (by omega); have kchK3_1 : ∀ o, w3.cell? ⟨w.heap.size + 1, o, none⟩ = _ := fun o => hK3.cell (p := ⟨w.heap.size + 1, o, none⟩) (by go_size) (by dsimp only; omega); have kfhK3_1 : ∀ o, w3.frozen? ⟨w.heap.size + 1, o, none⟩ = _ := fun o => hK3.frozen (p := ⟨w.heap.size + 1, o, none⟩) (by go_size) (by dsimp only; omega); clear zzhK3
    have hKw3 : Kp s w.heap.size w w3 := (by repeat' (first | (with_reducible exact Kp.refl _ _ _) | (with_reducible assumption) | (with_reducible refine Kp.drewN ?_ _) | (with_reducible refine Kp.drew ?_) | (with_reducible refine Kp.alloc ?_ ?_ _) | (with_reducible refine Kp.setCell ?_ ?_ _) | (with_reducible refine Kp.trans ?_ (Kp.mono (by with_reducible assumption) ?_)) | (with_reducible refine Kp.trans ?_ (Kp.of_below (Below.mono (by with_reducible assumption) ?_))) | go_size | (dsimp only; omega)))
    clear hz
    rcases (show y = 0 ∨ y = 1 ∨ y = 2 ∨ y = 3 by omega) with rfl | rfl | rfl | rfl
    · go_wp2
      exact bodyPost_ret (v := .agg #[.int .i64 z, .int .i64 q, .int .i64 r, .int .i64 t]) (by simp only [results, Tryz.results81]; go_simp) rfl ⟨⟨_, _, _, _, rfl⟩, (by repeat' (first | (with_reducible assumption) | (with_reducible refine Src.drewN ?_ _) | (with_reducible refine Src.drew ?_) | (with_reducible refine Src.alloc ?_ _) | (with_reducible refine Src.setCell ?_ ?_ _) | (with_reducible refine Src.below ?_ (by with_reducible assumption) ?_) | go_size | (dsimp only; omega))), (by repeat' (first | (with_reducible exact Kp.refl _ _ _) | (with_reducible assumption) | (with_reducible refine Kp.drewN ?_ _) | (with_reducible refine Kp.drew ?_) | (with_reducible refine Kp.alloc ?_ ?_ _) | (with_reducible refine Kp.setCell ?_ ?_ _) | (with_reducible refine Kp.trans ?_ (Kp.mono (by with_reducible assumption) ?_)) | (with_reducible refine Kp.trans ?_ (Kp.of_below (Below.mono (by with_reducible assumption) ?_))) | go_size | (dsimp only; omega)))⟩
    · go_wp2
      exact bodyPost_ret (v := .agg #[.int .i64 p, .int .i64 z, .int .i64 r, .int .i64 t]) (by simp only [results, Tryz.results81]; go_simp) rfl ⟨⟨_, _, _, _, rfl⟩, (by repeat' (first | (with_reducible assumption) | (with_reducible refine Src.drewN ?_ _) | (with_reducible refine Src.drew ?_) | (with_reducible refine Src.alloc ?_ _) | (with_reducible refine Src.setCell ?_ ?_ _) | (with_reducible refine Src.below ?_ (by with_reducible assumption) ?_) | go_size | (dsimp only; omega))), (by repeat' (first | (with_reducible exact Kp.refl _ _ _) | (with_reducible assumption) | (with_reducible refine Kp.drewN ?_ _) | (with_reducible refine Kp.drew ?_) | (with_reducible refine Kp.alloc ?_ ?_ _) | (with_reducible refine Kp.setCell ?_ ?_ _) | (with_reducible refine Kp.trans ?_ (Kp.mono (by with_reducible assumption) ?_)) | (with_reducible refine Kp.trans ?_ (Kp.of_below (Below.mono (by with_reducible assumption) ?_))) | go_size | (dsimp only; omega)))⟩
    · go_wp2
      exact bodyPost_ret (v := .agg #[.int .i64 p, .int .i64 q, .int .i64 z, .int .i64 t]) (by simp only [results, Tryz.results81]; go_simp) rfl ⟨⟨_, _, _, _, rfl⟩, (by repeat' (first | (with_reducible assumption) | (with_reducible refine Src.drewN ?_ _) | (with_reducible refine Src.drew ?_) | (with_reducible refine Src.alloc ?_ _) | (with_reducible refine Src.setCell ?_ ?_ _) | (with_reducible refine Src.below ?_ (by with_reducible assumption) ?_) | go_size | (dsimp only; omega))), (by repeat' (first | (with_reducible exact Kp.refl _ _ _) | (with_reducible assumption) | (with_reducible refine Kp.drewN ?_ _) | (with_reducible refine Kp.drew ?_) | (with_reducible refine Kp.alloc ?_ ?_ _) | (with_reducible refine Kp.setCell ?_ ?_ _) | (with_reducible refine Kp.trans ?_ (Kp.mono (by with_reducible assumption) ?_)) | (with_reducible refine Kp.trans ?_ (Kp.of_below (Below.mono (by with_reducible assumption) ?_))) | go_size | (dsimp only; omega)))⟩
    · go_wp2
      exact bodyPost_ret (v := .agg #[.int .i64 p, .int .i64 q, .int .i64 r, .int .i64 z]) (by simp only [results, Tryz.results81]; go_simp) rfl ⟨⟨_, _, _, _, rfl⟩, (by repeat' (first | (with_reducible assumption) | (with_reducible refine Src.drewN ?_ _) | (with_reducible refine Src.drew ?_) | (with_reducible refine Src.alloc ?_ _) | (with_reducible refine Src.setCell ?_ ?_ _) | (with_reducible refine Src.below ?_ (by with_reducible assumption) ?_) | go_size | (dsimp only; omega))), (by repeat' (first | (with_reducible exact Kp.refl _ _ _) | (with_reducible assumption) | (with_reducible refine Kp.drewN ?_ _) | (with_reducible refine Kp.drew ?_) | (with_reducible refine Kp.alloc ?_ ?_ _) | (with_reducible refine Kp.setCell ?_ ?_ _) | (with_reducible refine Kp.trans ?_ (Kp.mono (by with_reducible assumption) ?_)) | (with_reducible refine Kp.trans ?_ (Kp.of_below (Below.mono (by with_reducible assumption) ?_))) | go_size | (dsimp only; omega)))⟩
  · have hx' : (x == 0) = false := by simpa using hx
    by_cases h1 : x = 1
    · subst h1
      go_wp2
      exact bodyPost_ret (v := .agg #[.int .i64 0, .int .i64 1, .int .i64 1, .int .i64 0]) (by simp only [results, Tryz.results81]; go_simp) rfl ⟨⟨_, _, _, _, rfl⟩, (by repeat' (first | (with_reducible assumption) | (with_reducible refine Src.drewN ?_ _) | (with_reducible refine Src.drew ?_) | (with_reducible refine Src.alloc ?_ _) | (with_reducible refine Src.setCell ?_ ?_ _) | (with_reducible refine Src.below ?_ (by with_reducible assumption) ?_) | go_size | (dsimp only; omega))), (by repeat' (first | (with_reducible exact Kp.refl _ _ _) | (with_reducible assumption) | (with_reducible refine Kp.drewN ?_ _) | (with_reducible refine Kp.drew ?_) | (with_reducible refine Kp.alloc ?_ ?_ _) | (with_reducible refine Kp.setCell ?_ ?_ _) | (with_reducible refine Kp.trans ?_ (Kp.mono (by with_reducible assumption) ?_)) | (with_reducible refine Kp.trans ?_ (Kp.of_below (Below.mono (by with_reducible assumption) ?_))) | go_size | (dsimp only; omega)))⟩
    · have h1' : (x == 1) = false := by simpa using h1
      by_cases h2 : x = 2
      · subst h2
        go_wp2
        exact bodyPost_ret (v := .agg #[.int .i64 0, .int .i64 0, .int .i64 0, .int .i64 0]) (by simp only [results, Tryz.results81]; go_simp) rfl ⟨⟨_, _, _, _, rfl⟩, (by repeat' (first | (with_reducible assumption) | (with_reducible refine Src.drewN ?_ _) | (with_reducible refine Src.drew ?_) | (with_reducible refine Src.alloc ?_ _) | (with_reducible refine Src.setCell ?_ ?_ _) | (with_reducible refine Src.below ?_ (by with_reducible assumption) ?_) | go_size | (dsimp only; omega))), (by repeat' (first | (with_reducible exact Kp.refl _ _ _) | (with_reducible assumption) | (with_reducible refine Kp.drewN ?_ _) | (with_reducible refine Kp.drew ?_) | (with_reducible refine Kp.alloc ?_ ?_ _) | (with_reducible refine Kp.setCell ?_ ?_ _) | (with_reducible refine Kp.trans ?_ (Kp.mono (by with_reducible assumption) ?_)) | (with_reducible refine Kp.trans ?_ (Kp.of_below (Below.mono (by with_reducible assumption) ?_))) | go_size | (dsimp only; omega)))⟩
      · have h2' : (x == 2) = false := by simpa using h2
        go_wp2
        exact bodyPost_ret (v := .agg #[.int .i64 p, .int .i64 q, .int .i64 r, .int .i64 t]) (by simp only [results, Tryz.results81]; go_simp) rfl ⟨⟨_, _, _, _, rfl⟩, (by repeat' (first | (with_reducible assumption) | (with_reducible refine Src.drewN ?_ _) | (with_reducible refine Src.drew ?_) | (with_reducible refine Src.alloc ?_ _) | (with_reducible refine Src.setCell ?_ ?_ _) | (with_reducible refine Src.below ?_ (by with_reducible assumption) ?_) | go_size | (dsimp only; omega))), (by repeat' (first | (with_reducible exact Kp.refl _ _ _) | (with_reducible assumption) | (with_reducible refine Kp.drewN ?_ _) | (with_reducible refine Kp.drew ?_) | (with_reducible refine Kp.alloc ?_ ?_ _) | (with_reducible refine Kp.setCell ?_ ?_ _) | (with_reducible refine Kp.trans ?_ (Kp.mono (by with_reducible assumption) ?_)) | (with_reducible refine Kp.trans ?_ (Kp.of_below (Below.mono (by with_reducible assumption) ?_))) | go_size | (dsimp only; omega)))⟩
theorem power_any (p q r t : Int) (n : Nat) (w : World) (h : isM p q r t = true) (hn : n ≤ 1000000) :
    Calls Tryz.prog 108 #[.agg #[.int .i64 p, .int .i64 q, .int .i64 r, .int .i64 t], .int .i64 n] w fun e w' => (∃ (a b c d : Int) (o : Bool), e = .returned (.tuple #[.agg #[.int .i64 a, .int .i64 b, .int .i64 c, .int .i64 d], .bool o])) ∧ Below w.heap.size w w' := by
  have key : ∀ e, PowS ⟨p, q, r, t⟩ n e → ∃ (a b c d : Int) (o : Bool), e = .returned (.tuple #[.agg #[.int .i64 a, .int .i64 b, .int .i64 c, .int .i64 d], .bool o]) := by
    rintro e ⟨x, b, rfl, -, -⟩
    exact ⟨x.a, x.b, x.c, x.d, b, rfl⟩
  by_cases hk : kindOf p q r t < 2
  · exact (l01Power_small p q r t n w h hn hk).mono (fun e w' ⟨h1, h2⟩ => ⟨key e h1, h2⟩)
  · exact (l01Power_great p q r t n w h hn hk).mono (fun e w' ⟨h1, h2⟩ => ⟨key e h1, h2⟩)
set_option maxRecDepth 100000 in
set_option maxHeartbeats 8000000 in
theorem draw_c (s : Nat) (w : World) (hS : Src s w) :
    Calls Tryz.prog 106 #[.pointer (some ⟨s, 0, none⟩)] w fun e w' => ∃ a b c d : Int, e = .returned (.agg #[.int .i64 a, .int .i64 b, .int .i64 c, .int .i64 d]) ∧ isM a b c d = true ∧ Src s w' ∧ Kp s w.heap.size w w' := by
  have hs := hS.lt
  go_enter Tryz.func106, Tryz.ntmps106
  go_wp2_with fail
  refine (next_c s 6 _ (by repeat' (first | (with_reducible assumption) | (with_reducible refine Src.drewN ?_ _) | (with_reducible refine Src.drew ?_) | (with_reducible refine Src.alloc ?_ _) | (with_reducible refine Src.setCell ?_ ?_ _) | (with_reducible refine Src.below ?_ (by with_reducible assumption) ?_) | go_size | (dsimp only; omega))) (by omega) (by omega)).mono ?_
  rintro e w1 ⟨x, rfl, hx0, hx1, hS1, hK1⟩
  have hz1 := hK1.size
  simp only [World.size_alloc] at hz1
  have zzhK1 := hK1.size; (try simp at zzhK1); have zhK1_0 : w.heap.size < w1.heap.size := (by omega); have kchK1_0 : ∀ o, w1.cell? ⟨w.heap.size, o, none⟩ = _ := fun o => hK1.cell (p := ⟨w.heap.size, o, none⟩) (by go_size) (by dsimp only; omega); have kfhK1_0 : ∀ o, w1.frozen? ⟨w.heap.size, o, none⟩ = _ := fun o => hK1.frozen (p := ⟨w.heap.size, o, none⟩) (by go_size) (by dsimp only; omega); clear zzhK1
  have hKw1 : Kp s w.heap.size w w1 := (by repeat' (first | (with_reducible exact Kp.refl _ _ _) | (with_reducible assumption) | (with_reducible refine Kp.drewN ?_ _) | (with_reducible refine Kp.drew ?_) | (with_reducible refine Kp.alloc ?_ ?_ _) | (with_reducible refine Kp.setCell ?_ ?_ _) | (with_reducible refine Kp.trans ?_ (Kp.mono (by with_reducible assumption) ?_)) | (with_reducible refine Kp.trans ?_ (Kp.of_below (Below.mono (by with_reducible assumption) ?_))) | go_size | (dsimp only; omega)))
  clear hx1 hK1
  by_cases h0 : x = 0
  · subst h0
    go_wp2_with fail
    refine (next_c s 20 _ (by repeat' (first | (with_reducible assumption) | (with_reducible refine Src.drewN ?_ _) | (with_reducible refine Src.drew ?_) | (with_reducible refine Src.alloc ?_ _) | (with_reducible refine Src.setCell ?_ ?_ _) | (with_reducible refine Src.below ?_ (by with_reducible assumption) ?_) | go_size | (dsimp only; omega))) (by omega) (by omega)).mono ?_
    rintro e w2 ⟨y, rfl, hy0, hy1, hS2, hK2⟩
    have hy2 := hy1 (by omega)
    have hz2 := hK2.size
    have zzhK2 := hK2.size; (try simp at zzhK2); have zhK2_0 : w.heap.size < w2.heap.size := (by omega); have kchK2_0 : ∀ o, w2.cell? ⟨w.heap.size, o, none⟩ = _ := fun o => hK2.cell (p := ⟨w.heap.size, o, none⟩) (by go_size) (by dsimp only; omega); have kfhK2_0 : ∀ o, w2.frozen? ⟨w.heap.size, o, none⟩ = _ := fun o => hK2.frozen (p := ⟨w.heap.size, o, none⟩) (by go_size) (by dsimp only; omega); clear zzhK2
    have hKw2 : Kp s w.heap.size w w2 := (by repeat' (first | (with_reducible exact Kp.refl _ _ _) | (with_reducible assumption) | (with_reducible refine Kp.drewN ?_ _) | (with_reducible refine Kp.drew ?_) | (with_reducible refine Kp.alloc ?_ ?_ _) | (with_reducible refine Kp.setCell ?_ ?_ _) | (with_reducible refine Kp.trans ?_ (Kp.mono (by with_reducible assumption) ?_)) | (with_reducible refine Kp.trans ?_ (Kp.of_below (Below.mono (by with_reducible assumption) ?_))) | go_size | (dsimp only; omega)))
    go_wp2_with fail
    refine (drawWord_c s y _ hS2 (by omega) (by omega)).mono ?_
    rintro e w3 ⟨a, b, c, d, rfl, hM, hS3, hK3⟩
    have hz3 := hK3.size
    have zzhK3 := hK3.size; (try simp at zzhK3); have zhK3_0 : w.heap.size < w3.heap.size := (by omega); have kchK3_0 : ∀ o, w3.cell? ⟨w.heap.size, o, none⟩ = _ := fun o => hK3.cell (p := ⟨w.heap.size, o, none⟩) (by go_size) (by dsimp only; omega); have kfhK3_0 : ∀ o, w3.frozen? ⟨w.heap.size, o, none⟩ = _ := fun o => hK3.frozen (p := ⟨w.heap.size, o, none⟩) (by go_size) (by dsimp only; omega); clear zzhK3
    have hKw3 : Kp s w.heap.size w w3 := (by repeat' (first | (with_reducible exact Kp.refl _ _ _) | (with_reducible assumption) | (with_reducible refine Kp.drewN ?_ _) | (with_reducible refine Kp.drew ?_) | (with_reducible refine Kp.alloc ?_ ?_ _) | (with_reducible refine Kp.setCell ?_ ?_ _) | (with_reducible refine Kp.trans ?_ (Kp.mono (by with_reducible assumption) ?_)) | (with_reducible refine Kp.trans ?_ (Kp.of_below (Below.mono (by with_reducible assumption) ?_))) | go_size | (dsimp only; omega)))
    go_wp2
    exact bodyPost_ret (v := .agg #[.int .i64 a, .int .i64 b, .int .i64 c, .int .i64 d]) (by simp only [results, Tryz.results106]; go_simp) rfl ⟨a, b, c, d, rfl, hM, (by repeat' (first | (with_reducible assumption) | (with_reducible refine Src.drewN ?_ _) | (with_reducible refine Src.drew ?_) | (with_reducible refine Src.alloc ?_ _) | (with_reducible refine Src.setCell ?_ ?_ _) | (with_reducible refine Src.below ?_ (by with_reducible assumption) ?_) | go_size | (dsimp only; omega))), (by repeat' (first | (with_reducible exact Kp.refl _ _ _) | (with_reducible assumption) | (with_reducible refine Kp.drewN ?_ _) | (with_reducible refine Kp.drew ?_) | (with_reducible refine Kp.alloc ?_ ?_ _) | (with_reducible refine Kp.setCell ?_ ?_ _) | (with_reducible refine Kp.trans ?_ (Kp.mono (by with_reducible assumption) ?_)) | (with_reducible refine Kp.trans ?_ (Kp.of_below (Below.mono (by with_reducible assumption) ?_))) | go_size | (dsimp only; omega)))⟩
  have h0' : (x == 0) = false := by simpa using h0
  by_cases h1 : x = 1
  · subst h1
    go_wp2_with fail
    refine (next_c s 1000 _ (by repeat' (first | (with_reducible assumption) | (with_reducible refine Src.drewN ?_ _) | (with_reducible refine Src.drew ?_) | (with_reducible refine Src.alloc ?_ _) | (with_reducible refine Src.setCell ?_ ?_ _) | (with_reducible refine Src.below ?_ (by with_reducible assumption) ?_) | go_size | (dsimp only; omega))) (by omega) (by omega)).mono ?_
    rintro e w2 ⟨y, rfl, hy0, hy1, hS2, hK2⟩
    have hy2 := hy1 (by omega)
    have hz2 := hK2.size
    have zzhK2 := hK2.size; (try simp at zzhK2); have zhK2_0 : w.heap.size < w2.heap.size := (by omega); have kchK2_0 : ∀ o, w2.cell? ⟨w.heap.size, o, none⟩ = _ := fun o => hK2.cell (p := ⟨w.heap.size, o, none⟩) (by go_size) (by dsimp only; omega); have kfhK2_0 : ∀ o, w2.frozen? ⟨w.heap.size, o, none⟩ = _ := fun o => hK2.frozen (p := ⟨w.heap.size, o, none⟩) (by go_size) (by dsimp only; omega); clear zzhK2
    have hKw2 : Kp s w.heap.size w w2 := (by repeat' (first | (with_reducible exact Kp.refl _ _ _) | (with_reducible assumption) | (with_reducible refine Kp.drewN ?_ _) | (with_reducible refine Kp.drew ?_) | (with_reducible refine Kp.alloc ?_ ?_ _) | (with_reducible refine Kp.setCell ?_ ?_ _) | (with_reducible refine Kp.trans ?_ (Kp.mono (by with_reducible assumption) ?_)) | (with_reducible refine Kp.trans ?_ (Kp.of_below (Below.mono (by with_reducible assumption) ?_))) | go_size | (dsimp only; omega)))
    have hM : isM 1 (y - 500) 0 1 = true := isM_iff.mpr ⟨by omega, by omega, by omega, by omega, by simp⟩
    go_wp2
    exact bodyPost_ret (v := .agg #[.int .i64 1, .int .i64 (y - 500), .int .i64 0, .int .i64 1]) (by simp only [results, Tryz.results106]; go_simp) rfl ⟨1, y - 500, 0, 1, rfl, hM, (by repeat' (first | (with_reducible assumption) | (with_reducible refine Src.drewN ?_ _) | (with_reducible refine Src.drew ?_) | (with_reducible refine Src.alloc ?_ _) | (with_reducible refine Src.setCell ?_ ?_ _) | (with_reducible refine Src.below ?_ (by with_reducible assumption) ?_) | go_size | (dsimp only; omega))), (by repeat' (first | (with_reducible exact Kp.refl _ _ _) | (with_reducible assumption) | (with_reducible refine Kp.drewN ?_ _) | (with_reducible refine Kp.drew ?_) | (with_reducible refine Kp.alloc ?_ ?_ _) | (with_reducible refine Kp.setCell ?_ ?_ _) | (with_reducible refine Kp.trans ?_ (Kp.mono (by with_reducible assumption) ?_)) | (with_reducible refine Kp.trans ?_ (Kp.of_below (Below.mono (by with_reducible assumption) ?_))) | go_size | (dsimp only; omega)))⟩
  have h1' : (x == 1) = false := by simpa using h1
  by_cases h2 : x = 2
  · subst h2
    go_wp2_with fail
    refine (next_c s 2 _ (by repeat' (first | (with_reducible assumption) | (with_reducible refine Src.drewN ?_ _) | (with_reducible refine Src.drew ?_) | (with_reducible refine Src.alloc ?_ _) | (with_reducible refine Src.setCell ?_ ?_ _) | (with_reducible refine Src.below ?_ (by with_reducible assumption) ?_) | go_size | (dsimp only; omega))) (by omega) (by omega)).mono ?_
    rintro e w2 ⟨y, rfl, hy0, hy1, hS2, hK2⟩
    have hy2 := hy1 (by omega)
    have hz2 := hK2.size
    have zzhK2 := hK2.size; (try simp at zzhK2); have zhK2_0 : w.heap.size < w2.heap.size := (by omega); have kchK2_0 : ∀ o, w2.cell? ⟨w.heap.size, o, none⟩ = _ := fun o => hK2.cell (p := ⟨w.heap.size, o, none⟩) (by go_size) (by dsimp only; omega); have kfhK2_0 : ∀ o, w2.frozen? ⟨w.heap.size, o, none⟩ = _ := fun o => hK2.frozen (p := ⟨w.heap.size, o, none⟩) (by go_size) (by dsimp only; omega); clear zzhK2
    have hKw2 : Kp s w.heap.size w w2 := (by repeat' (first | (with_reducible exact Kp.refl _ _ _) | (with_reducible assumption) | (with_reducible refine Kp.drewN ?_ _) | (with_reducible refine Kp.drew ?_) | (with_reducible refine Kp.alloc ?_ ?_ _) | (with_reducible refine Kp.setCell ?_ ?_ _) | (with_reducible refine Kp.trans ?_ (Kp.mono (by with_reducible assumption) ?_)) | (with_reducible refine Kp.trans ?_ (Kp.of_below (Below.mono (by with_reducible assumption) ?_))) | go_size | (dsimp only; omega)))
    go_wp2_with fail
    refine (drawWord_c s (1 + y) _ hS2 (by omega) (by omega)).mono ?_
    rintro e w3 ⟨p, q, r, t, rfl, hM, hS3, hK3⟩
    have hz3 := hK3.size
    have zzhK3 := hK3.size; (try simp at zzhK3); have zhK3_0 : w.heap.size < w3.heap.size := (by omega); have kchK3_0 : ∀ o, w3.cell? ⟨w.heap.size, o, none⟩ = _ := fun o => hK3.cell (p := ⟨w.heap.size, o, none⟩) (by go_size) (by dsimp only; omega); have kfhK3_0 : ∀ o, w3.frozen? ⟨w.heap.size, o, none⟩ = _ := fun o => hK3.frozen (p := ⟨w.heap.size, o, none⟩) (by go_size) (by dsimp only; omega); clear zzhK3
    have hKw3 : Kp s w.heap.size w w3 := (by repeat' (first | (with_reducible exact Kp.refl _ _ _) | (with_reducible assumption) | (with_reducible refine Kp.drewN ?_ _) | (with_reducible refine Kp.drew ?_) | (with_reducible refine Kp.alloc ?_ ?_ _) | (with_reducible refine Kp.setCell ?_ ?_ _) | (with_reducible refine Kp.trans ?_ (Kp.mono (by with_reducible assumption) ?_)) | (with_reducible refine Kp.trans ?_ (Kp.of_below (Below.mono (by with_reducible assumption) ?_))) | go_size | (dsimp only; omega)))
    clear hS1 hS2 hKw1 hKw2 hK2
    go_wp2_with fail
    refine (next_c s 4 _ hS3 (by omega) (by omega)).mono ?_
    rintro e w4 ⟨y2, rfl, hy20, hy21, hS4, hK4⟩
    have hy22 := hy21 (by omega)
    have hz4 := hK4.size
    have zzhK4 := hK4.size; (try simp at zzhK4); have zhK4_0 : w.heap.size < w4.heap.size := (by omega); have kchK4_0 : ∀ o, w4.cell? ⟨w.heap.size, o, none⟩ = _ := fun o => hK4.cell (p := ⟨w.heap.size, o, none⟩) (by go_size) (by dsimp only; omega); have kfhK4_0 : ∀ o, w4.frozen? ⟨w.heap.size, o, none⟩ = _ := fun o => hK4.frozen (p := ⟨w.heap.size, o, none⟩) (by go_size) (by dsimp only; omega); clear zzhK4
    have hKw4 : Kp s w.heap.size w w4 := (by repeat' (first | (with_reducible exact Kp.refl _ _ _) | (with_reducible assumption) | (with_reducible refine Kp.drewN ?_ _) | (with_reducible refine Kp.drew ?_) | (with_reducible refine Kp.alloc ?_ ?_ _) | (with_reducible refine Kp.setCell ?_ ?_ _) | (with_reducible refine Kp.trans ?_ (Kp.mono (by with_reducible assumption) ?_)) | (with_reducible refine Kp.trans ?_ (Kp.of_below (Below.mono (by with_reducible assumption) ?_))) | go_size | (dsimp only; omega)))
    go_wp2_with fail
    refine (drawWord_c s y2 _ hS4 (by omega) (by omega)).mono ?_
    rintro e w5 ⟨p', q', r', t', rfl, hM', hS5, hK5⟩
    have hz5 := hK5.size
    have zzhK5 := hK5.size; (try simp at zzhK5); have zhK5_0 : w.heap.size < w5.heap.size := (by omega); have kchK5_0 : ∀ o, w5.cell? ⟨w.heap.size, o, none⟩ = _ := fun o => hK5.cell (p := ⟨w.heap.size, o, none⟩) (by go_size) (by dsimp only; omega); have kfhK5_0 : ∀ o, w5.frozen? ⟨w.heap.size, o, none⟩ = _ := fun o => hK5.frozen (p := ⟨w.heap.size, o, none⟩) (by go_size) (by dsimp only; omega); clear zzhK5
    have hKw5 : Kp s w.heap.size w w5 := (by repeat' (first | (with_reducible exact Kp.refl _ _ _) | (with_reducible assumption) | (with_reducible refine Kp.drewN ?_ _) | (with_reducible refine Kp.drew ?_) | (with_reducible refine Kp.alloc ?_ ?_ _) | (with_reducible refine Kp.setCell ?_ ?_ _) | (with_reducible refine Kp.trans ?_ (Kp.mono (by with_reducible assumption) ?_)) | (with_reducible refine Kp.trans ?_ (Kp.of_below (Below.mono (by with_reducible assumption) ?_))) | go_size | (dsimp only; omega)))
    clear hS3 hS4 hKw3 hKw4 hK3 hK4
    have r0 : w5.cell? ⟨w.heap.size, 0, none⟩ = some (.int .i64 0) := by rw [kchK5_0, kchK4_0, kchK3_0, kchK2_0, kchK1_0]; go_cell
    have r1 : w5.cell? ⟨w.heap.size, 1, none⟩ = some (.int .i64 0) := by rw [kchK5_0, kchK4_0, kchK3_0, kchK2_0, kchK1_0]; go_cell
    have r2 : w5.cell? ⟨w.heap.size, 2, none⟩ = some (.int .i64 0) := by rw [kchK5_0, kchK4_0, kchK3_0, kchK2_0, kchK1_0]; go_cell
    have r3 : w5.cell? ⟨w.heap.size, 3, none⟩ = some (.int .i64 0) := by rw [kchK5_0, kchK4_0, kchK3_0, kchK2_0, kchK1_0]; go_cell
    have rf : ∀ i, w5.frozen? ⟨w.heap.size, i, none⟩ = false := by intro i; rw [kfhK5_0, kfhK4_0, kfhK3_0, kfhK2_0, kfhK1_0]; first | (simp; done) | (go_simp; done)
    go_wp2_with fail
    generalize hw6 : World.alloc _ _ = w6
    obtain ⟨R, hR⟩ : ∃ R, w.heap.size = R := ⟨_, rfl⟩
    obtain ⟨bm, hbm⟩ : ∃ bm, w5.heap.size = bm := ⟨_, rfl⟩
    obtain ⟨bn, hbn⟩ : ∃ bn, w5.heap.size + 1 = bn := ⟨_, rfl⟩
    have b56 : Below w5.heap.size w5 w6 := by subst hw6; exact (by repeat' (first | (with_reducible exact Below.refl _ _) | (with_reducible assumption) | (with_reducible refine below_drewN ?_ _) | (with_reducible refine Below.drew ?_) | (with_reducible refine Below.alloc ?_ ?_ _) | (with_reducible refine Below.setCell ?_ ?_ _) | (with_reducible refine Below.trans ?_ (Below.mono (by with_reducible assumption) ?_)) | go_size | (dsimp only; omega)))
    have hbn' : bm + 1 = bn := by omega
    have hS6 : Src s w6 := by subst hw6; exact (by repeat' (first | (with_reducible assumption) | (with_reducible refine Src.drewN ?_ _) | (with_reducible refine Src.drew ?_) | (with_reducible refine Src.alloc ?_ _) | (with_reducible refine Src.setCell ?_ ?_ _) | (with_reducible refine Src.below ?_ (by with_reducible assumption) ?_) | go_size | (dsimp only; omega)))
    have hK6 : Kp s R w w6 := by subst hw6; rw [← hR]; exact (by repeat' (first | (with_reducible exact Kp.refl _ _ _) | (with_reducible assumption) | (with_reducible refine Kp.drewN ?_ _) | (with_reducible refine Kp.drew ?_) | (with_reducible refine Kp.alloc ?_ ?_ _) | (with_reducible refine Kp.setCell ?_ ?_ _) | (with_reducible refine Kp.trans ?_ (Kp.mono (by with_reducible assumption) ?_)) | (with_reducible refine Kp.trans ?_ (Kp.of_below (Below.mono (by with_reducible assumption) ?_))) | go_size | (dsimp only; omega)))
    have hz6 : bn < w6.heap.size := by subst hw6 hbn; go_size
    have f00 : w6.cell? ⟨bm, 0, none⟩ = some (.int .i64 p) := by subst hw6 hbm; go_simp
    have f01 : w6.cell? ⟨bm, 1, none⟩ = some (.int .i64 q) := by subst hw6 hbm; go_simp
    have f02 : w6.cell? ⟨bm, 2, none⟩ = some (.int .i64 r) := by subst hw6 hbm; go_simp
    have f03 : w6.cell? ⟨bm, 3, none⟩ = some (.int .i64 t) := by subst hw6 hbm; go_simp
    have f10 : w6.cell? ⟨bn, 0, none⟩ = some (.int .i64 p') := by subst hw6 hbn; go_simp
    have f11 : w6.cell? ⟨bn, 1, none⟩ = some (.int .i64 q') := by subst hw6 hbn; go_simp
    have f12 : w6.cell? ⟨bn, 2, none⟩ = some (.int .i64 r') := by subst hw6 hbn; go_simp
    have f13 : w6.cell? ⟨bn, 3, none⟩ = some (.int .i64 t') := by subst hw6 hbn; go_simp
    have f20 : w6.cell? ⟨R, 0, none⟩ = some (.int .i64 0) := by rw [b56.cell (p := ⟨R, 0, none⟩) (by dsimp only; omega)]; rw [← hR]; exact r0
    have f21 : w6.cell? ⟨R, 1, none⟩ = some (.int .i64 0) := by rw [b56.cell (p := ⟨R, 1, none⟩) (by dsimp only; omega)]; rw [← hR]; exact r1
    have f22 : w6.cell? ⟨R, 2, none⟩ = some (.int .i64 0) := by rw [b56.cell (p := ⟨R, 2, none⟩) (by dsimp only; omega)]; rw [← hR]; exact r2
    have f23 : w6.cell? ⟨R, 3, none⟩ = some (.int .i64 0) := by rw [b56.cell (p := ⟨R, 3, none⟩) (by dsimp only; omega)]; rw [← hR]; exact r3
    have ff : ∀ i, w6.frozen? ⟨R, i, none⟩ = false := by intro i; rw [b56.frozen (p := ⟨R, i, none⟩) (by dsimp only; omega)]; rw [← hR]; exact rf i
    have hlt1 : R < bm := by omega
    have hlt2 : bm < bn := by omega
    have hsR : s < R := by omega
    rw [hR, hbm, hbn']
    obtain ⟨e1, d1⟩ := isM_to hM
    obtain ⟨e2, d2⟩ := isM_to hM'
    obtain ⟨⟨a0, a1⟩, ⟨a2, a3⟩, ⟨a4, a5⟩, ⟨a6, a7⟩, hdd⟩ := isM_iff.mp hM'
    have e4 : M4.ent ⟨t', -q', -r', p'⟩ = true := M4.ent_iff.mpr ⟨ent_iff.mpr (by dsimp only; omega), ent_iff.mpr (by dsimp only; omega), ent_iff.mpr (by dsimp only; omega), ent_iff.mpr (by dsimp only; omega)⟩
    have d4 : M4.det ⟨t', -q', -r', p'⟩ = 1 := by simp only [M4.det]; rw [Int.neg_mul_neg, Int.mul_comm t' p']; exact hdd
    obtain ⟨x0, x1, x2, x3, x4, hv⟩ := prodV_form (prodL M4.I [⟨p', q', r', t'⟩, ⟨p, q, r, t⟩, ⟨t', -q', -r', p'⟩])
    have hx4 : x4 = 0 → isM x0 x1 x2 x3 = true := by
      intro hx
      cases hpr : prodL M4.I [⟨p', q', r', t'⟩, ⟨p, q, r, t⟩, ⟨t', -q', -r', p'⟩] with
      | none => rw [hpr] at hv; simp [prodV] at hv; omega
      | some X =>
        rw [hpr] at hv
        have hd := prodL_exact _ _ _ hpr
        have he := prodL_ent _ _ _ I_ent hpr
        have hdX : X.det = 1 := by
          rw [hd, M4.I_mul]
          exact exL_det _ (by intro m hm; simp only [List.mem_cons, List.not_mem_nil, or_false] at hm; rcases hm with rfl | rfl | rfl <;> assumption)
        have hi := isM_of he hdX
        simp [prodV, M4.v] at hv
        obtain ⟨⟨g0, g1, g2, g3⟩, -⟩ := hv
        rw [← g0, ← g1, ← g2, ← g3]; exact hi
    have HV := Lib.hid hv
    have E1 := Lib.hid e1
    have E2 := Lib.hid e2
    have E4 := Lib.hid e4
    have HX := Lib.hid hx4
    have HMM := Lib.hid hM
    have HRW := Lib.hid hR
    clear r0 r1 r2 r3 rf b56 hbn' hv e1 e2 e4 hx4 hM hM' d1 d2 d4 hdd hw6 hbm hbn hR hS5 hK5 hKw5 kchK1_0 kchK2_0 kchK3_0 kchK4_0 kchK5_0 kfhK1_0 kfhK2_0 kfhK3_0 kfhK4_0 kfhK5_0 hS
    go_region_held3 (fun w' => w'.cell? ⟨bm, 0, none⟩ = some (.int .i64 p) ∧ w'.cell? ⟨bm, 1, none⟩ = some (.int .i64 q) ∧ w'.cell? ⟨bm, 2, none⟩ = some (.int .i64 r) ∧ w'.cell? ⟨bm, 3, none⟩ = some (.int .i64 t) ∧ w'.cell? ⟨bn, 0, none⟩ = some (.int .i64 p') ∧ w'.cell? ⟨bn, 1, none⟩ = some (.int .i64 q') ∧ w'.cell? ⟨bn, 2, none⟩ = some (.int .i64 r') ∧ w'.cell? ⟨bn, 3, none⟩ = some (.int .i64 t')) (((try go_split_ands); (try (refine ⟨?_, ?_, ?_, ?_, ?_, ?_, ?_, ?_⟩)) <;> first | (with_reducible assumption) | (with_reducible exact keep_drew (by with_reducible assumption)) | (with_reducible exact held_cell hb (by with_reducible assumption)) | (with_reducible exact keep_new (by with_reducible assumption)) | (with_reducible exact keep_alloc (by with_reducible assumption) (by dsimp only; omega)) | (with_reducible exact keep_drew (keep_new (by with_reducible assumption))) | (with_reducible exact keep_drew (held_cell hb (by with_reducible assumption))) | ((with_reducible refine keep_set ?_ (by dsimp only; omega)); (repeat (with_reducible refine keep_set ?_ (by dsimp only; omega))); first | (with_reducible assumption) | (with_reducible exact held_cell hb (by with_reducible assumption))) | (go_keep; done))) (first | (go_at_call 80; refine (l01Inverse_c _ _ _ _ _ (by omega) (by omega) (by omega) (by omega) (by omega) (by omega) (by omega) (by omega)).mono ?_; rintro e w7 ⟨rfl, hb⟩; have zq7 := hb.size; (try simp only [World.size_alloc, World.size_drew] at zq7); have zzhb := hb.size; (try simp at zzhb); have zhb_R0 : R < w7.heap.size := (by omega); have kchb_R0 : ∀ o, w7.cell? ⟨R, o, none⟩ = _ := fun o => hb.cell (p := ⟨R, o, none⟩) (by go_size); have kfhb_R0 : ∀ o, w7.frozen? ⟨R, o, none⟩ = _ := fun o => hb.frozen (p := ⟨R, o, none⟩) (by go_size); have zhb_bm0 : bm < w7.heap.size := (by omega); have kchb_bm0 : ∀ o, w7.cell? ⟨bm, o, none⟩ = _ := fun o => hb.cell (p := ⟨bm, o, none⟩) (by go_size); have kfhb_bm0 : ∀ o, w7.frozen? ⟨bm, o, none⟩ = _ := fun o => hb.frozen (p := ⟨bm, o, none⟩) (by go_size); have zhb_bn0 : bn < w7.heap.size := (by omega); have kchb_bn0 : ∀ o, w7.cell? ⟨bn, o, none⟩ = _ := fun o => hb.cell (p := ⟨bn, o, none⟩) (by go_size); have kfhb_bn0 : ∀ o, w7.frozen? ⟨bn, o, none⟩ = _ := fun o => hb.frozen (p := ⟨bn, o, none⟩) (by go_size); clear zzhb; (try have n1 : ¬ w7.heap.size = R := by omega); (try have n2 : ¬ w7.heap.size = bm := by omega); (try have n3 : ¬ w7.heap.size = bn := by omega); (try (have zzhb := hb.size; (try simp at zzhb); have zhb_0 : w6.heap.size < w7.heap.size := (by omega); have kchb_0 : ∀ o, w7.cell? ⟨w6.heap.size, o, none⟩ = _ := fun o => hb.cell (p := ⟨w6.heap.size, o, none⟩) (by go_size); have kfhb_0 : ∀ o, w7.frozen? ⟨w6.heap.size, o, none⟩ = _ := fun o => hb.frozen (p := ⟨w6.heap.size, o, none⟩) (by go_size); clear zzhb))) | (go_at_call 79; refine (l01Product_3 _ p' q' r' t' p q r t t' (-q') (-r') p' _ E2.out E1.out E4.out (by go_cell) (by go_cell) (by go_cell) (by go_cell) (by go_cell) (by go_cell) (by go_cell) (by go_cell) (by go_cell) (by go_cell) (by go_cell) (by go_cell)).mono ?_; rintro e w8 ⟨rfl, hb⟩; rw [HV.out]; have zq8 := hb.size; (try simp only [World.size_alloc, World.size_drew] at zq8); have zzhb := hb.size; (try simp at zzhb); have zhb_R0 : R < w8.heap.size := (by omega); have kchb_R0 : ∀ o, w8.cell? ⟨R, o, none⟩ = _ := fun o => hb.cell (p := ⟨R, o, none⟩) (by go_size); have kfhb_R0 : ∀ o, w8.frozen? ⟨R, o, none⟩ = _ := fun o => hb.frozen (p := ⟨R, o, none⟩) (by go_size); have zhb_bm0 : bm < w8.heap.size := (by omega); have kchb_bm0 : ∀ o, w8.cell? ⟨bm, o, none⟩ = _ := fun o => hb.cell (p := ⟨bm, o, none⟩) (by go_size); have kfhb_bm0 : ∀ o, w8.frozen? ⟨bm, o, none⟩ = _ := fun o => hb.frozen (p := ⟨bm, o, none⟩) (by go_size); have zhb_bn0 : bn < w8.heap.size := (by omega); have kchb_bn0 : ∀ o, w8.cell? ⟨bn, o, none⟩ = _ := fun o => hb.cell (p := ⟨bn, o, none⟩) (by go_size); have kfhb_bn0 : ∀ o, w8.frozen? ⟨bn, o, none⟩ = _ := fun o => hb.frozen (p := ⟨bn, o, none⟩) (by go_size); clear zzhb; (try (have zzhb := hb.size; (try simp at zzhb); have zhb_0 : w6.heap.size < w8.heap.size := (by omega); have kchb_0 : ∀ o, w8.cell? ⟨w6.heap.size, o, none⟩ = _ := fun o => hb.cell (p := ⟨w6.heap.size, o, none⟩) (by go_size); have kfhb_0 : ∀ o, w8.frozen? ⟨w6.heap.size, o, none⟩ = _ := fun o => hb.frozen (p := ⟨w6.heap.size, o, none⟩) (by go_size); clear zzhb)); (try (have zzhb := hb.size; (try simp at zzhb); have zhb_0 : w7.heap.size < w8.heap.size := (by omega); have kchb_0 : ∀ o, w8.cell? ⟨w7.heap.size, o, none⟩ = _ := fun o => hb.cell (p := ⟨w7.heap.size, o, none⟩) (by go_size); have kfhb_0 : ∀ o, w8.frozen? ⟨w7.heap.size, o, none⟩ = _ := fun o => hb.frozen (p := ⟨w7.heap.size, o, none⟩) (by go_size); clear zzhb)); (try (have zzhb := hb.size; (try simp at zzhb); have zhb_0 : w7.heap.size+1 < w8.heap.size := (by omega); have kchb_0 : ∀ o, w8.cell? ⟨w7.heap.size+1, o, none⟩ = _ := fun o => hb.cell (p := ⟨w7.heap.size+1, o, none⟩) (by go_size); have kfhb_0 : ∀ o, w8.frozen? ⟨w7.heap.size+1, o, none⟩ = _ := fun o => hb.frozen (p := ⟨w7.heap.size+1, o, none⟩) (by go_size); clear zzhb))))
    all_goals (try go_split_ands)
    · generalize hW : World.alloc _ _ = W5
      have a0' : W5.cell? ⟨w8.heap.size, 0, none⟩ = some (.int .i64 x0) := by subst hW; go_cell
      have a1' : W5.cell? ⟨w8.heap.size, 1, none⟩ = some (.int .i64 x1) := by subst hW; go_cell
      have a2' : W5.cell? ⟨w8.heap.size, 2, none⟩ = some (.int .i64 x2) := by subst hW; go_cell
      have a3' : W5.cell? ⟨w8.heap.size, 3, none⟩ = some (.int .i64 x3) := by subst hW; go_cell
      have c0' : W5.cell? ⟨R, 0, none⟩ = some (.int .i64 0) := by subst hW; go_simp
      have c1' : W5.cell? ⟨R, 1, none⟩ = some (.int .i64 0) := by subst hW; go_simp
      have c2' : W5.cell? ⟨R, 2, none⟩ = some (.int .i64 0) := by subst hW; go_simp
      have c3' : W5.cell? ⟨R, 3, none⟩ = some (.int .i64 0) := by subst hW; go_simp
      have cf' : ∀ i, W5.frozen? ⟨R, i, none⟩ = false := by subst hW; intro i; go_simp
      have m0' : W5.cell? ⟨bm, 0, none⟩ = some (.int .i64 p) := by subst hW; go_simp
      have m1' : W5.cell? ⟨bm, 1, none⟩ = some (.int .i64 q) := by subst hW; go_simp
      have m2' : W5.cell? ⟨bm, 2, none⟩ = some (.int .i64 r) := by subst hW; go_simp
      have m3' : W5.cell? ⟨bm, 3, none⟩ = some (.int .i64 t) := by subst hW; go_simp
      have hS9 : Src s W5 := by subst hW; exact (by repeat' (first | (with_reducible assumption) | (with_reducible refine Src.drewN ?_ _) | (with_reducible refine Src.drew ?_) | (with_reducible refine Src.alloc ?_ _) | (with_reducible refine Src.setCell ?_ ?_ _) | (with_reducible refine Src.below ?_ (by with_reducible assumption) ?_) | go_size | (dsimp only; omega)))
      have hK9 : Kp s R w W5 := by subst hW; exact (by repeat' (first | (with_reducible exact Kp.refl _ _ _) | (with_reducible assumption) | (with_reducible refine Kp.drewN ?_ _) | (with_reducible refine Kp.drew ?_) | (with_reducible refine Kp.alloc ?_ ?_ _) | (with_reducible refine Kp.setCell ?_ ?_ _) | (with_reducible refine Kp.trans ?_ (Kp.mono (by with_reducible assumption) ?_)) | (with_reducible refine Kp.trans ?_ (Kp.of_below (Below.mono (by with_reducible assumption) ?_))) | go_size | (dsimp only; omega)))
      have hz9 : R < W5.heap.size := by subst hW; go_size
      clear hW f00 f01 f02 f03 f10 f11 f12 f13 f20 f21 f22 f23 ff hS6 hK6 hb
      by_cases hx : x4 = 0
      · have HM2 := HX.out hx
        subst hx
        go_wp2
        exact bodyPost_ret (v := .agg #[.int .i64 x0, .int .i64 x1, .int .i64 x2, .int .i64 x3]) (by simp only [results, Tryz.results106]; go_simp) rfl ⟨x0, x1, x2, x3, rfl, HM2, (by repeat' (first | (with_reducible assumption) | (with_reducible refine Src.drewN ?_ _) | (with_reducible refine Src.drew ?_) | (with_reducible refine Src.alloc ?_ _) | (with_reducible refine Src.setCell ?_ ?_ _) | (with_reducible refine Src.below ?_ (by with_reducible assumption) ?_) | go_size | (dsimp only; omega))), by rw [HRW.out]; exact (by repeat' (first | (with_reducible exact Kp.refl _ _ _) | (with_reducible assumption) | (with_reducible refine Kp.drewN ?_ _) | (with_reducible refine Kp.drew ?_) | (with_reducible refine Kp.alloc ?_ ?_ _) | (with_reducible refine Kp.setCell ?_ ?_ _) | (with_reducible refine Kp.trans ?_ (Kp.mono (by with_reducible assumption) ?_)) | (with_reducible refine Kp.trans ?_ (Kp.of_below (Below.mono (by with_reducible assumption) ?_))) | go_size | (dsimp only; omega)))⟩
      · have hx' : (x4 == 0) = false := by simpa using hx
        go_wp2
        exact bodyPost_ret (v := .agg #[.int .i64 p, .int .i64 q, .int .i64 r, .int .i64 t]) (by simp only [results, Tryz.results106]; go_simp) rfl ⟨p, q, r, t, rfl, HMM.out, (by repeat' (first | (with_reducible assumption) | (with_reducible refine Src.drewN ?_ _) | (with_reducible refine Src.drew ?_) | (with_reducible refine Src.alloc ?_ _) | (with_reducible refine Src.setCell ?_ ?_ _) | (with_reducible refine Src.below ?_ (by with_reducible assumption) ?_) | go_size | (dsimp only; omega))), by rw [HRW.out]; exact (by repeat' (first | (with_reducible exact Kp.refl _ _ _) | (with_reducible assumption) | (with_reducible refine Kp.drewN ?_ _) | (with_reducible refine Kp.drew ?_) | (with_reducible refine Kp.alloc ?_ ?_ _) | (with_reducible refine Kp.setCell ?_ ?_ _) | (with_reducible refine Kp.trans ?_ (Kp.mono (by with_reducible assumption) ?_)) | (with_reducible refine Kp.trans ?_ (Kp.of_below (Below.mono (by with_reducible assumption) ?_))) | go_size | (dsimp only; omega)))⟩
    · generalize hW : World.setCell _ _ _ = W5
      have a0' : W5.cell? ⟨w7.heap.size + 1, 0, none⟩ = some (.int .i64 x0) := by subst hW; go_simp
      have a1' : W5.cell? ⟨w7.heap.size + 1, 1, none⟩ = some (.int .i64 x1) := by subst hW; go_simp
      have a2' : W5.cell? ⟨w7.heap.size + 1, 2, none⟩ = some (.int .i64 x2) := by subst hW; go_simp
      have a3' : W5.cell? ⟨w7.heap.size + 1, 3, none⟩ = some (.int .i64 x3) := by subst hW; go_simp
      have c0' : W5.cell? ⟨R, 0, none⟩ = some (.int .i64 0) := by subst hW; go_simp
      have c1' : W5.cell? ⟨R, 1, none⟩ = some (.int .i64 0) := by subst hW; go_simp
      have c2' : W5.cell? ⟨R, 2, none⟩ = some (.int .i64 0) := by subst hW; go_simp
      have c3' : W5.cell? ⟨R, 3, none⟩ = some (.int .i64 0) := by subst hW; go_simp
      have cf' : ∀ i, W5.frozen? ⟨R, i, none⟩ = false := by subst hW; intro i; go_simp
      have m0' : W5.cell? ⟨bm, 0, none⟩ = some (.int .i64 p) := by subst hW; go_simp
      have m1' : W5.cell? ⟨bm, 1, none⟩ = some (.int .i64 q) := by subst hW; go_simp
      have m2' : W5.cell? ⟨bm, 2, none⟩ = some (.int .i64 r) := by subst hW; go_simp
      have m3' : W5.cell? ⟨bm, 3, none⟩ = some (.int .i64 t) := by subst hW; go_simp
      have hS9 : Src s W5 := by subst hW; exact (by repeat' (first | (with_reducible assumption) | (with_reducible refine Src.drewN ?_ _) | (with_reducible refine Src.drew ?_) | (with_reducible refine Src.alloc ?_ _) | (with_reducible refine Src.setCell ?_ ?_ _) | (with_reducible refine Src.below ?_ (by with_reducible assumption) ?_) | go_size | (dsimp only; omega)))
      have hK9 : Kp s R w W5 := by subst hW; exact (by repeat' (first | (with_reducible exact Kp.refl _ _ _) | (with_reducible assumption) | (with_reducible refine Kp.drewN ?_ _) | (with_reducible refine Kp.drew ?_) | (with_reducible refine Kp.alloc ?_ ?_ _) | (with_reducible refine Kp.setCell ?_ ?_ _) | (with_reducible refine Kp.trans ?_ (Kp.mono (by with_reducible assumption) ?_)) | (with_reducible refine Kp.trans ?_ (Kp.of_below (Below.mono (by with_reducible assumption) ?_))) | go_size | (dsimp only; omega)))
      have hz9 : R < W5.heap.size := by subst hW; go_size
      clear hW f00 f01 f02 f03 f10 f11 f12 f13 f20 f21 f22 f23 ff hS6 hK6 hb
      by_cases hx : x4 = 0
      · have HM2 := HX.out hx
        subst hx
        go_wp2
        exact bodyPost_ret (v := .agg #[.int .i64 x0, .int .i64 x1, .int .i64 x2, .int .i64 x3]) (by simp only [results, Tryz.results106]; go_simp) rfl ⟨x0, x1, x2, x3, rfl, HM2, (by repeat' (first | (with_reducible assumption) | (with_reducible refine Src.drewN ?_ _) | (with_reducible refine Src.drew ?_) | (with_reducible refine Src.alloc ?_ _) | (with_reducible refine Src.setCell ?_ ?_ _) | (with_reducible refine Src.below ?_ (by with_reducible assumption) ?_) | go_size | (dsimp only; omega))), by rw [HRW.out]; exact (by repeat' (first | (with_reducible exact Kp.refl _ _ _) | (with_reducible assumption) | (with_reducible refine Kp.drewN ?_ _) | (with_reducible refine Kp.drew ?_) | (with_reducible refine Kp.alloc ?_ ?_ _) | (with_reducible refine Kp.setCell ?_ ?_ _) | (with_reducible refine Kp.trans ?_ (Kp.mono (by with_reducible assumption) ?_)) | (with_reducible refine Kp.trans ?_ (Kp.of_below (Below.mono (by with_reducible assumption) ?_))) | go_size | (dsimp only; omega)))⟩
      · have hx' : (x4 == 0) = false := by simpa using hx
        go_wp2
        exact bodyPost_ret (v := .agg #[.int .i64 p, .int .i64 q, .int .i64 r, .int .i64 t]) (by simp only [results, Tryz.results106]; go_simp) rfl ⟨p, q, r, t, rfl, HMM.out, (by repeat' (first | (with_reducible assumption) | (with_reducible refine Src.drewN ?_ _) | (with_reducible refine Src.drew ?_) | (with_reducible refine Src.alloc ?_ _) | (with_reducible refine Src.setCell ?_ ?_ _) | (with_reducible refine Src.below ?_ (by with_reducible assumption) ?_) | go_size | (dsimp only; omega))), by rw [HRW.out]; exact (by repeat' (first | (with_reducible exact Kp.refl _ _ _) | (with_reducible assumption) | (with_reducible refine Kp.drewN ?_ _) | (with_reducible refine Kp.drew ?_) | (with_reducible refine Kp.alloc ?_ ?_ _) | (with_reducible refine Kp.setCell ?_ ?_ _) | (with_reducible refine Kp.trans ?_ (Kp.mono (by with_reducible assumption) ?_)) | (with_reducible refine Kp.trans ?_ (Kp.of_below (Below.mono (by with_reducible assumption) ?_))) | go_size | (dsimp only; omega)))⟩
    · generalize hW : World.setCell _ _ _ = W5
      have a0' : W5.cell? ⟨w7.heap.size, 0, none⟩ = some (.int .i64 x0) := by subst hW; go_simp
      have a1' : W5.cell? ⟨w7.heap.size, 1, none⟩ = some (.int .i64 x1) := by subst hW; go_simp
      have a2' : W5.cell? ⟨w7.heap.size, 2, none⟩ = some (.int .i64 x2) := by subst hW; go_simp
      have a3' : W5.cell? ⟨w7.heap.size, 3, none⟩ = some (.int .i64 x3) := by subst hW; go_simp
      have c0' : W5.cell? ⟨R, 0, none⟩ = some (.int .i64 0) := by subst hW; go_simp
      have c1' : W5.cell? ⟨R, 1, none⟩ = some (.int .i64 0) := by subst hW; go_simp
      have c2' : W5.cell? ⟨R, 2, none⟩ = some (.int .i64 0) := by subst hW; go_simp
      have c3' : W5.cell? ⟨R, 3, none⟩ = some (.int .i64 0) := by subst hW; go_simp
      have cf' : ∀ i, W5.frozen? ⟨R, i, none⟩ = false := by subst hW; intro i; go_simp
      have m0' : W5.cell? ⟨bm, 0, none⟩ = some (.int .i64 p) := by subst hW; go_simp
      have m1' : W5.cell? ⟨bm, 1, none⟩ = some (.int .i64 q) := by subst hW; go_simp
      have m2' : W5.cell? ⟨bm, 2, none⟩ = some (.int .i64 r) := by subst hW; go_simp
      have m3' : W5.cell? ⟨bm, 3, none⟩ = some (.int .i64 t) := by subst hW; go_simp
      have hS9 : Src s W5 := by subst hW; exact (by repeat' (first | (with_reducible assumption) | (with_reducible refine Src.drewN ?_ _) | (with_reducible refine Src.drew ?_) | (with_reducible refine Src.alloc ?_ _) | (with_reducible refine Src.setCell ?_ ?_ _) | (with_reducible refine Src.below ?_ (by with_reducible assumption) ?_) | go_size | (dsimp only; omega)))
      have hK9 : Kp s R w W5 := by subst hW; exact (by repeat' (first | (with_reducible exact Kp.refl _ _ _) | (with_reducible assumption) | (with_reducible refine Kp.drewN ?_ _) | (with_reducible refine Kp.drew ?_) | (with_reducible refine Kp.alloc ?_ ?_ _) | (with_reducible refine Kp.setCell ?_ ?_ _) | (with_reducible refine Kp.trans ?_ (Kp.mono (by with_reducible assumption) ?_)) | (with_reducible refine Kp.trans ?_ (Kp.of_below (Below.mono (by with_reducible assumption) ?_))) | go_size | (dsimp only; omega)))
      have hz9 : R < W5.heap.size := by subst hW; go_size
      clear hW f00 f01 f02 f03 f10 f11 f12 f13 f20 f21 f22 f23 ff hS6 hK6 hb
      by_cases hx : x4 = 0
      · have HM2 := HX.out hx
        subst hx
        go_wp2
        exact bodyPost_ret (v := .agg #[.int .i64 x0, .int .i64 x1, .int .i64 x2, .int .i64 x3]) (by simp only [results, Tryz.results106]; go_simp) rfl ⟨x0, x1, x2, x3, rfl, HM2, (by repeat' (first | (with_reducible assumption) | (with_reducible refine Src.drewN ?_ _) | (with_reducible refine Src.drew ?_) | (with_reducible refine Src.alloc ?_ _) | (with_reducible refine Src.setCell ?_ ?_ _) | (with_reducible refine Src.below ?_ (by with_reducible assumption) ?_) | go_size | (dsimp only; omega))), by rw [HRW.out]; exact (by repeat' (first | (with_reducible exact Kp.refl _ _ _) | (with_reducible assumption) | (with_reducible refine Kp.drewN ?_ _) | (with_reducible refine Kp.drew ?_) | (with_reducible refine Kp.alloc ?_ ?_ _) | (with_reducible refine Kp.setCell ?_ ?_ _) | (with_reducible refine Kp.trans ?_ (Kp.mono (by with_reducible assumption) ?_)) | (with_reducible refine Kp.trans ?_ (Kp.of_below (Below.mono (by with_reducible assumption) ?_))) | go_size | (dsimp only; omega)))⟩
      · have hx' : (x4 == 0) = false := by simpa using hx
        go_wp2
        exact bodyPost_ret (v := .agg #[.int .i64 p, .int .i64 q, .int .i64 r, .int .i64 t]) (by simp only [results, Tryz.results106]; go_simp) rfl ⟨p, q, r, t, rfl, HMM.out, (by repeat' (first | (with_reducible assumption) | (with_reducible refine Src.drewN ?_ _) | (with_reducible refine Src.drew ?_) | (with_reducible refine Src.alloc ?_ _) | (with_reducible refine Src.setCell ?_ ?_ _) | (with_reducible refine Src.below ?_ (by with_reducible assumption) ?_) | go_size | (dsimp only; omega))), by rw [HRW.out]; exact (by repeat' (first | (with_reducible exact Kp.refl _ _ _) | (with_reducible assumption) | (with_reducible refine Kp.drewN ?_ _) | (with_reducible refine Kp.drew ?_) | (with_reducible refine Kp.alloc ?_ ?_ _) | (with_reducible refine Kp.setCell ?_ ?_ _) | (with_reducible refine Kp.trans ?_ (Kp.mono (by with_reducible assumption) ?_)) | (with_reducible refine Kp.trans ?_ (Kp.of_below (Below.mono (by with_reducible assumption) ?_))) | go_size | (dsimp only; omega)))⟩
    · generalize hW : World.setCell _ _ _ = W5
      have g0 : (w6.alloc (Obj.cells #[.int .i64 0, .int .i64 0, .int .i64 0, .int .i64 0] 25)).cell? ⟨R, 0, none⟩ = some (.int .i64 0) := keep_new f20
      have g1 : (w6.alloc (Obj.cells #[.int .i64 0, .int .i64 0, .int .i64 0, .int .i64 0] 25)).cell? ⟨R, 1, none⟩ = some (.int .i64 0) := keep_new f21
      have g2 : (w6.alloc (Obj.cells #[.int .i64 0, .int .i64 0, .int .i64 0, .int .i64 0] 25)).cell? ⟨R, 2, none⟩ = some (.int .i64 0) := keep_new f22
      have g3 : (w6.alloc (Obj.cells #[.int .i64 0, .int .i64 0, .int .i64 0, .int .i64 0] 25)).cell? ⟨R, 3, none⟩ = some (.int .i64 0) := keep_new f23
      have gf : ∀ i, (w6.alloc (Obj.cells #[.int .i64 0, .int .i64 0, .int .i64 0, .int .i64 0] 25)).frozen? ⟨R, i, none⟩ = false := fun i => by rw [(Below.alloc (Below.refl w6.heap.size w6) (Nat.le_refl _) _).frozen (p := ⟨R, i, none⟩) (by dsimp only; omega)]; exact ff i
      have a0' : W5.cell? ⟨w6.heap.size, 0, none⟩ = some (.int .i64 x0) := by subst hW; go_simp
      have a1' : W5.cell? ⟨w6.heap.size, 1, none⟩ = some (.int .i64 x1) := by subst hW; go_simp
      have a2' : W5.cell? ⟨w6.heap.size, 2, none⟩ = some (.int .i64 x2) := by subst hW; go_simp
      have a3' : W5.cell? ⟨w6.heap.size, 3, none⟩ = some (.int .i64 x3) := by subst hW; go_simp
      have c0' : W5.cell? ⟨R, 0, none⟩ = some (.int .i64 0) := by subst hW; go_simp
      have c1' : W5.cell? ⟨R, 1, none⟩ = some (.int .i64 0) := by subst hW; go_simp
      have c2' : W5.cell? ⟨R, 2, none⟩ = some (.int .i64 0) := by subst hW; go_simp
      have c3' : W5.cell? ⟨R, 3, none⟩ = some (.int .i64 0) := by subst hW; go_simp
      have cf' : ∀ i, W5.frozen? ⟨R, i, none⟩ = false := by subst hW; intro i; go_simp
      have m0' : W5.cell? ⟨bm, 0, none⟩ = some (.int .i64 p) := by subst hW; go_simp
      have m1' : W5.cell? ⟨bm, 1, none⟩ = some (.int .i64 q) := by subst hW; go_simp
      have m2' : W5.cell? ⟨bm, 2, none⟩ = some (.int .i64 r) := by subst hW; go_simp
      have m3' : W5.cell? ⟨bm, 3, none⟩ = some (.int .i64 t) := by subst hW; go_simp
      have hS9 : Src s W5 := by subst hW; exact (by repeat' (first | (with_reducible assumption) | (with_reducible refine Src.drewN ?_ _) | (with_reducible refine Src.drew ?_) | (with_reducible refine Src.alloc ?_ _) | (with_reducible refine Src.setCell ?_ ?_ _) | (with_reducible refine Src.below ?_ (by with_reducible assumption) ?_) | go_size | (dsimp only; omega)))
      have hK9 : Kp s R w W5 := by subst hW; exact (by repeat' (first | (with_reducible exact Kp.refl _ _ _) | (with_reducible assumption) | (with_reducible refine Kp.drewN ?_ _) | (with_reducible refine Kp.drew ?_) | (with_reducible refine Kp.alloc ?_ ?_ _) | (with_reducible refine Kp.setCell ?_ ?_ _) | (with_reducible refine Kp.trans ?_ (Kp.mono (by with_reducible assumption) ?_)) | (with_reducible refine Kp.trans ?_ (Kp.of_below (Below.mono (by with_reducible assumption) ?_))) | go_size | (dsimp only; omega)))
      have hz9 : R < W5.heap.size := by subst hW; go_size
      clear hW g0 g1 g2 g3 gf f00 f01 f02 f03 f10 f11 f12 f13 f20 f21 f22 f23 ff hS6 hK6 hb
      by_cases hx : x4 = 0
      · have HM2 := HX.out hx
        subst hx
        go_wp2
        exact bodyPost_ret (v := .agg #[.int .i64 x0, .int .i64 x1, .int .i64 x2, .int .i64 x3]) (by simp only [results, Tryz.results106]; go_simp) rfl ⟨x0, x1, x2, x3, rfl, HM2, (by repeat' (first | (with_reducible assumption) | (with_reducible refine Src.drewN ?_ _) | (with_reducible refine Src.drew ?_) | (with_reducible refine Src.alloc ?_ _) | (with_reducible refine Src.setCell ?_ ?_ _) | (with_reducible refine Src.below ?_ (by with_reducible assumption) ?_) | go_size | (dsimp only; omega))), by rw [HRW.out]; exact (by repeat' (first | (with_reducible exact Kp.refl _ _ _) | (with_reducible assumption) | (with_reducible refine Kp.drewN ?_ _) | (with_reducible refine Kp.drew ?_) | (with_reducible refine Kp.alloc ?_ ?_ _) | (with_reducible refine Kp.setCell ?_ ?_ _) | (with_reducible refine Kp.trans ?_ (Kp.mono (by with_reducible assumption) ?_)) | (with_reducible refine Kp.trans ?_ (Kp.of_below (Below.mono (by with_reducible assumption) ?_))) | go_size | (dsimp only; omega)))⟩
      · have hx' : (x4 == 0) = false := by simpa using hx
        go_wp2
        exact bodyPost_ret (v := .agg #[.int .i64 p, .int .i64 q, .int .i64 r, .int .i64 t]) (by simp only [results, Tryz.results106]; go_simp) rfl ⟨p, q, r, t, rfl, HMM.out, (by repeat' (first | (with_reducible assumption) | (with_reducible refine Src.drewN ?_ _) | (with_reducible refine Src.drew ?_) | (with_reducible refine Src.alloc ?_ _) | (with_reducible refine Src.setCell ?_ ?_ _) | (with_reducible refine Src.below ?_ (by with_reducible assumption) ?_) | go_size | (dsimp only; omega))), by rw [HRW.out]; exact (by repeat' (first | (with_reducible exact Kp.refl _ _ _) | (with_reducible assumption) | (with_reducible refine Kp.drewN ?_ _) | (with_reducible refine Kp.drew ?_) | (with_reducible refine Kp.alloc ?_ ?_ _) | (with_reducible refine Kp.setCell ?_ ?_ _) | (with_reducible refine Kp.trans ?_ (Kp.mono (by with_reducible assumption) ?_)) | (with_reducible refine Kp.trans ?_ (Kp.of_below (Below.mono (by with_reducible assumption) ?_))) | go_size | (dsimp only; omega)))⟩
  have h2' : (x == 2) = false := by simpa using h2
  by_cases h3 : x = 3
  · subst h3
    go_wp2_with fail
    refine (drawWord_c s 2 _ hS1 (by omega) (by omega)).mono ?_
    rintro e w2 ⟨p, q, r, t, rfl, hM, hS2, hK2⟩
    have hz2 := hK2.size
    have zzhK2 := hK2.size; (try simp at zzhK2); have zhK2_0 : w.heap.size < w2.heap.size := (by omega); have kchK2_0 : ∀ o, w2.cell? ⟨w.heap.size, o, none⟩ = _ := fun o => hK2.cell (p := ⟨w.heap.size, o, none⟩) (by go_size) (by dsimp only; omega); have kfhK2_0 : ∀ o, w2.frozen? ⟨w.heap.size, o, none⟩ = _ := fun o => hK2.frozen (p := ⟨w.heap.size, o, none⟩) (by go_size) (by dsimp only; omega); clear zzhK2
    have hKw2 : Kp s w.heap.size w w2 := (by repeat' (first | (with_reducible exact Kp.refl _ _ _) | (with_reducible assumption) | (with_reducible refine Kp.drewN ?_ _) | (with_reducible refine Kp.drew ?_) | (with_reducible refine Kp.alloc ?_ ?_ _) | (with_reducible refine Kp.setCell ?_ ?_ _) | (with_reducible refine Kp.trans ?_ (Kp.mono (by with_reducible assumption) ?_)) | (with_reducible refine Kp.trans ?_ (Kp.of_below (Below.mono (by with_reducible assumption) ?_))) | go_size | (dsimp only; omega)))
    go_wp2_with fail
    refine (next_c s 8 _ hS2 (by omega) (by omega)).mono ?_
    rintro e w3 ⟨y, rfl, hy0, hy1, hS3, hK3⟩
    have hy2 := hy1 (by omega)
    obtain ⟨k, rfl⟩ : ∃ k : Nat, y = k := ⟨y.toNat, by omega⟩
    have hz3 := hK3.size
    have zzhK3 := hK3.size; (try simp at zzhK3); have zhK3_0 : w.heap.size < w3.heap.size := (by omega); have kchK3_0 : ∀ o, w3.cell? ⟨w.heap.size, o, none⟩ = _ := fun o => hK3.cell (p := ⟨w.heap.size, o, none⟩) (by go_size) (by dsimp only; omega); have kfhK3_0 : ∀ o, w3.frozen? ⟨w.heap.size, o, none⟩ = _ := fun o => hK3.frozen (p := ⟨w.heap.size, o, none⟩) (by go_size) (by dsimp only; omega); clear zzhK3
    have hKw3 : Kp s w.heap.size w w3 := (by repeat' (first | (with_reducible exact Kp.refl _ _ _) | (with_reducible assumption) | (with_reducible refine Kp.drewN ?_ _) | (with_reducible refine Kp.drew ?_) | (with_reducible refine Kp.alloc ?_ ?_ _) | (with_reducible refine Kp.setCell ?_ ?_ _) | (with_reducible refine Kp.trans ?_ (Kp.mono (by with_reducible assumption) ?_)) | (with_reducible refine Kp.trans ?_ (Kp.of_below (Below.mono (by with_reducible assumption) ?_))) | go_size | (dsimp only; omega)))
    go_wp2_with fail
    refine (power_any p q r t k _ hM (by omega)).mono ?_
    rintro e w4 ⟨⟨a, b, c, d, o, rfl⟩, b4⟩
    have hz4 := b4.size
    have zzb4 := b4.size; (try simp at zzb4); have zb4_0 : w.heap.size < w4.heap.size := (by omega); have kcb4_0 : ∀ o, w4.cell? ⟨w.heap.size, o, none⟩ = _ := fun o => b4.cell (p := ⟨w.heap.size, o, none⟩) (by go_size); have kfb4_0 : ∀ o, w4.frozen? ⟨w.heap.size, o, none⟩ = _ := fun o => b4.frozen (p := ⟨w.heap.size, o, none⟩) (by go_size); clear zzb4
    have hS4 := hS3.below b4 (by have := hS3.lt; omega)
    have hKw4 : Kp s w.heap.size w w4 := hKw3.trans ((Kp.of_below b4).mono (by omega))
    go_wp2_with fail
    refine (l01Is_c a b c d _).mono ?_
    rintro e w5 ⟨rfl, b5⟩
    have hz5 := b5.size
    simp only [World.size_alloc] at hz5
    have zzb5 := b5.size; (try simp at zzb5); have zb5_w0 : w.heap.size < w5.heap.size := (by omega); have kcb5_w0 : ∀ o, w5.cell? ⟨w.heap.size, o, none⟩ = _ := fun o => b5.cell (p := ⟨w.heap.size, o, none⟩) (by go_size); have kfb5_w0 : ∀ o, w5.frozen? ⟨w.heap.size, o, none⟩ = _ := fun o => b5.frozen (p := ⟨w.heap.size, o, none⟩) (by go_size); have zb5_w40 : w4.heap.size < w5.heap.size := (by omega); have kcb5_w40 : ∀ o, w5.cell? ⟨w4.heap.size, o, none⟩ = _ := fun o => b5.cell (p := ⟨w4.heap.size, o, none⟩) (by go_size); have kfb5_w40 : ∀ o, w5.frozen? ⟨w4.heap.size, o, none⟩ = _ := fun o => b5.frozen (p := ⟨w4.heap.size, o, none⟩) (by go_size); clear zzb5
    have hS5 : Src s w5 := (hS4.alloc _).below b5 (by have := hS4.lt; simp only [World.size_alloc]; omega)
    have hKw5 : Kp s w.heap.size w w5 := (hKw4.alloc (by omega) _).trans ((Kp.of_below b5).mono (by simp only [World.size_alloc]; omega))
    cases hMa : isM a b c d
    · go_wp2_with fail
      refine (l01Negative_c 1 0 0 1 _ (by omega) (by omega) (by omega) (by omega) (by omega) (by omega) (by omega) (by omega)).mono ?_
      rintro e w6 ⟨rfl, b6⟩
      have hz6 := b6.size
      have zzb6 := b6.size; (try simp at zzb6); have zb6_0 : w.heap.size < w6.heap.size := (by omega); have kcb6_0 : ∀ o, w6.cell? ⟨w.heap.size, o, none⟩ = _ := fun o => b6.cell (p := ⟨w.heap.size, o, none⟩) (by go_size); have kfb6_0 : ∀ o, w6.frozen? ⟨w.heap.size, o, none⟩ = _ := fun o => b6.frozen (p := ⟨w.heap.size, o, none⟩) (by go_size); clear zzb6
      have hS6 := hS5.below b6 (by have := hS5.lt; omega)
      have hKw6 : Kp s w.heap.size w w6 := hKw5.trans ((Kp.of_below b6).mono (by omega))
      go_wp2
      exact bodyPost_ret (v := .agg #[.int .i64 (-1), .int .i64 (-0), .int .i64 (-0), .int .i64 (-1)]) (by simp only [results, Tryz.results106]; go_simp) rfl ⟨-1, 0, 0, -1, rfl, by decide, (by repeat' (first | (with_reducible assumption) | (with_reducible refine Src.drewN ?_ _) | (with_reducible refine Src.drew ?_) | (with_reducible refine Src.alloc ?_ _) | (with_reducible refine Src.setCell ?_ ?_ _) | (with_reducible refine Src.below ?_ (by with_reducible assumption) ?_) | go_size | (dsimp only; omega))), (by repeat' (first | (with_reducible exact Kp.refl _ _ _) | (with_reducible assumption) | (with_reducible refine Kp.drewN ?_ _) | (with_reducible refine Kp.drew ?_) | (with_reducible refine Kp.alloc ?_ ?_ _) | (with_reducible refine Kp.setCell ?_ ?_ _) | (with_reducible refine Kp.trans ?_ (Kp.mono (by with_reducible assumption) ?_)) | (with_reducible refine Kp.trans ?_ (Kp.of_below (Below.mono (by with_reducible assumption) ?_))) | go_size | (dsimp only; omega)))⟩
    · go_wp2
      exact bodyPost_ret (v := .agg #[.int .i64 a, .int .i64 b, .int .i64 c, .int .i64 d]) (by simp only [results, Tryz.results106]; go_simp) rfl ⟨a, b, c, d, rfl, hMa, (by repeat' (first | (with_reducible assumption) | (with_reducible refine Src.drewN ?_ _) | (with_reducible refine Src.drew ?_) | (with_reducible refine Src.alloc ?_ _) | (with_reducible refine Src.setCell ?_ ?_ _) | (with_reducible refine Src.below ?_ (by with_reducible assumption) ?_) | go_size | (dsimp only; omega))), (by repeat' (first | (with_reducible exact Kp.refl _ _ _) | (with_reducible assumption) | (with_reducible refine Kp.drewN ?_ _) | (with_reducible refine Kp.drew ?_) | (with_reducible refine Kp.alloc ?_ ?_ _) | (with_reducible refine Kp.setCell ?_ ?_ _) | (with_reducible refine Kp.trans ?_ (Kp.mono (by with_reducible assumption) ?_)) | (with_reducible refine Kp.trans ?_ (Kp.of_below (Below.mono (by with_reducible assumption) ?_))) | go_size | (dsimp only; omega)))⟩
  have h3' : (x == 3) = false := by simpa using h3
  go_wp2_with fail
  refine (small_c s _ hS1).mono ?_
  rintro e w2 ⟨a, b, c, d, rfl, hM, hS2, hK2⟩
  have hz2 := hK2.size
  have zzhK2 := hK2.size; (try simp at zzhK2); have zhK2_0 : w.heap.size < w2.heap.size := (by omega); have kchK2_0 : ∀ o, w2.cell? ⟨w.heap.size, o, none⟩ = _ := fun o => hK2.cell (p := ⟨w.heap.size, o, none⟩) (by go_size) (by dsimp only; omega); have kfhK2_0 : ∀ o, w2.frozen? ⟨w.heap.size, o, none⟩ = _ := fun o => hK2.frozen (p := ⟨w.heap.size, o, none⟩) (by go_size) (by dsimp only; omega); clear zzhK2
  go_wp2
  exact bodyPost_ret (v := .agg #[.int .i64 a, .int .i64 b, .int .i64 c, .int .i64 d]) (by simp only [results, Tryz.results106]; go_simp) rfl ⟨a, b, c, d, rfl, hM, (by repeat' (first | (with_reducible assumption) | (with_reducible refine Src.drewN ?_ _) | (with_reducible refine Src.drew ?_) | (with_reducible refine Src.alloc ?_ _) | (with_reducible refine Src.setCell ?_ ?_ _) | (with_reducible refine Src.below ?_ (by with_reducible assumption) ?_) | go_size | (dsimp only; omega))), (by repeat' (first | (with_reducible exact Kp.refl _ _ _) | (with_reducible assumption) | (with_reducible refine Kp.drewN ?_ _) | (with_reducible refine Kp.drew ?_) | (with_reducible refine Kp.alloc ?_ ?_ _) | (with_reducible refine Kp.setCell ?_ ?_ _) | (with_reducible refine Kp.trans ?_ (Kp.mono (by with_reducible assumption) ?_)) | (with_reducible refine Kp.trans ?_ (Kp.of_below (Below.mono (by with_reducible assumption) ?_))) | go_size | (dsimp only; omega)))⟩
end Go.Proofs.YtlkhhpckgcdeeaaGreatDoor
