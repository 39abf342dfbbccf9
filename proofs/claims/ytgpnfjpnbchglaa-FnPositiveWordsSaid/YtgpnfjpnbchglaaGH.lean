/- Draws of matrices that may be spoilt, of words. -/
import Derived.Test.YtgpnfjpnbchglaaGF
import Derived.Laws.IdiomStrings
namespace Go.Proofs.Ytgpnfjpnbchglaa
open Go.RowKit
set_option linter.unusedVariables false
set_option linter.unusedSimpArgs false
set_option maxHeartbeats 1000000 in
theorem spoil_c (s : Nat) (w : World) (hS : Src s w) :
    Calls Try.prog 31 #[.pointer (some ⟨s, 0, none⟩)] w fun e w' => AnyM e ∧ Src s w' ∧ Kp s w.heap.size w w' := by
  have hs := hS.lt
  go_enter Try.func31, Try.ntmps31
  go_wp2_with fail
  refine (draw_c s _ (by repeat' (first | (with_reducible assumption) | (with_reducible refine Src.drewN ?_ _) | (with_reducible refine Src.drew ?_) | (with_reducible refine Src.alloc ?_ _) | (with_reducible refine Src.setCell ?_ ?_ _) | (with_reducible refine Src.below ?_ (by with_reducible assumption) ?_) | go_size | (dsimp only; omega)))).mono ?_
  rintro e w1 ⟨a, b, c, d, rfl, hM, hS1, hK1⟩
  have hz1 := hK1.size
  simp only [World.size_alloc] at hz1
  have zzhK1 := hK1.size; (try simp at zzhK1); have zhK1_0 : w.heap.size < w1.heap.size := (by omega); have kchK1_0 : ∀ o, w1.cell? ⟨w.heap.size, o, none⟩ = _ := fun o => hK1.cell (p := ⟨w.heap.size, o, none⟩) (by go_size) (by dsimp only; omega); have kfhK1_0 : ∀ o, w1.frozen? ⟨w.heap.size, o, none⟩ = _ := fun o => hK1.frozen (p := ⟨w.heap.size, o, none⟩) (by go_size) (by dsimp only; omega); clear zzhK1
  go_wp2_with fail
  refine (bad_c s a b c d _ hS1).mono ?_
  rintro e w2 ⟨⟨p, q, r, t, rfl⟩, hS2, hK2⟩
  have hz2 := hK2.size
  have zzhK2 := hK2.size; (try simp at zzhK2); have zhK2_0 : w.heap.size < w2.heap.size := (by omega); have kchK2_0 : ∀ o, w2.cell? ⟨w.heap.size, o, none⟩ = _ := fun o => hK2.cell (p := ⟨w.heap.size, o, none⟩) (by go_size) (by dsimp only; omega); have kfhK2_0 : ∀ o, w2.frozen? ⟨w.heap.size, o, none⟩ = _ := fun o => hK2.frozen (p := ⟨w.heap.size, o, none⟩) (by go_size) (by dsimp only; omega); clear zzhK2
  go_wp2
  exact bodyPost_ret (v := .agg #[.int .i64 p, .int .i64 q, .int .i64 r, .int .i64 t]) (by simp only [results, Try.results31]; go_simp) rfl ⟨⟨p, q, r, t, rfl⟩, (by repeat' (first | (with_reducible assumption) | (with_reducible refine Src.drewN ?_ _) | (with_reducible refine Src.drew ?_) | (with_reducible refine Src.alloc ?_ _) | (with_reducible refine Src.setCell ?_ ?_ _) | (with_reducible refine Src.below ?_ (by with_reducible assumption) ?_) | go_size | (dsimp only; omega))), (by repeat' (first | (with_reducible exact Kp.refl _ _ _) | (with_reducible assumption) | (with_reducible refine Kp.drewN ?_ _) | (with_reducible refine Kp.drew ?_) | (with_reducible refine Kp.alloc ?_ ?_ _) | (with_reducible refine Kp.setCell ?_ ?_ _) | (with_reducible refine Kp.trans ?_ (Kp.mono (by with_reducible assumption) ?_)) | (with_reducible refine Kp.trans ?_ (Kp.of_below (Below.mono (by with_reducible assumption) ?_))) | go_size | (dsimp only; omega)))⟩
set_option maxHeartbeats 1000000 in
theorem drawChainOf_c (v : Value) (w : World) (hv : CodeV w v) :
    Calls Try.prog 6 #[v] w fun e w' => AnyM e ∧ Below w.heap.size w w' := by
  go_enter Try.func6, Try.ntmps6
  go_wp2_with fail
  refine (from_c v _ (hv.below (Below.alloc (Below.refl _ _) (Nat.le_refl _) _))).mono ?_
  rintro e w1 ⟨s, rfl, hs, hS1, b1⟩
  have hz1 := b1.size
  simp only [World.size_alloc] at hz1 hs
  have zzb1 := b1.size; (try simp at zzb1); have zb1_0 : w.heap.size < w1.heap.size := (by omega); have kcb1_0 : ∀ o, w1.cell? ⟨w.heap.size, o, none⟩ = _ := fun o => b1.cell (p := ⟨w.heap.size, o, none⟩) (by go_size); have kfb1_0 : ∀ o, w1.frozen? ⟨w.heap.size, o, none⟩ = _ := fun o => b1.frozen (p := ⟨w.heap.size, o, none⟩) (by go_size); clear zzb1
  go_wp2_with fail
  refine (spoil_c s _ hS1).mono ?_
  rintro e w2 ⟨⟨p, q, r, t, rfl⟩, hS2, hK2⟩
  have hz2 := hK2.size
  have b2 := hK2.mono (Nat.le_of_lt hS1.lt) |>.below (Nat.le_refl s)
  have zzhK2 := hK2.size; (try simp at zzhK2); have zhK2_0 : w.heap.size < w2.heap.size := (by omega); have kchK2_0 : ∀ o, w2.cell? ⟨w.heap.size, o, none⟩ = _ := fun o => hK2.cell (p := ⟨w.heap.size, o, none⟩) (by go_size) (by dsimp only; omega); have kfhK2_0 : ∀ o, w2.frozen? ⟨w.heap.size, o, none⟩ = _ := fun o => hK2.frozen (p := ⟨w.heap.size, o, none⟩) (by go_size) (by dsimp only; omega); clear zzhK2
  go_wp2
  exact bodyPost_ret (v := .agg #[.int .i64 p, .int .i64 q, .int .i64 r, .int .i64 t]) (by simp only [results, Try.results6]; go_simp) rfl ⟨⟨p, q, r, t, rfl⟩, (by repeat' (first | (with_reducible exact Below.refl _ _) | (with_reducible assumption) | (with_reducible refine below_drewN ?_ _) | (with_reducible refine Below.drew ?_) | (with_reducible refine Below.alloc ?_ ?_ _) | (with_reducible refine Below.setCell ?_ ?_ _) | (with_reducible refine Below.trans ?_ (Below.mono (by with_reducible assumption) ?_)) | go_size | (dsimp only; omega)))⟩
set_option maxHeartbeats 1000000 in
theorem drawLetters_c (s : Nat) (ls : ByteArray) (n : Int) (w : World) (hS : Src s w) (h1 : 1 ≤ ls.size) (h2 : ls.size ≤ 100) (hn0 : 0 ≤ n) (hn1 : n ≤ 1000) :
    Calls Try.prog 45 #[.pointer (some ⟨s, 0, none⟩), .string ls, .int .i64 n] w fun e w' => ∃ str : ByteArray, e = .returned (.string str) ∧ (str.size : Int) ≤ n ∧ Src s w' ∧ Kp s w.heap.size w w' := by
  have hs := hS.lt
  go_enter Try.func45, Try.ntmps45
  go_wp2_with fail
  refine (next_c s _ _ hS (by omega) (by omega)).mono ?_
  rintro e w1 ⟨x, rfl, hx0, hx1, hS1, hK1⟩
  have hx2 := hx1 (by omega)
  go_wp2
  go_loopw [7, 8] (fun vo vk wr => ∃ (str : ByteArray) (k : Int), vo = .string str ∧ vk = .int .i64 k ∧ 0 ≤ k ∧ (str.size : Int) + k ≤ n ∧ Src s wr ∧ Kp s w.heap.size w wr) (fun vo vk wr => (intOf vk).toNat)
  case atStart => exact ⟨⟨#[]⟩, x, rfl, rfl, hx0, by show ((0 : Nat) : Int) + x ≤ n; omega, hS1, hK1⟩
  case round =>
    obtain ⟨str, k, rfl, rfl, hk0, hks, hSr, hKr⟩ := hrel
    by_cases hz : 0 < k
    · have hz' : decide (0 < k) = true := decide_eq_true hz
      go_wp2_with fail
      refine (next_c s _ _ hSr (by omega) (by omega)).mono ?_
      rintro e w2 ⟨y, rfl, hy0, hy1, hS2, hK2⟩
      have hy2 := hy1 (by omega)
      obtain ⟨j, rfl⟩ : ∃ j : Nat, y = j := ⟨y.toNat, by omega⟩
      have hj : j + 1 ≤ ls.size := by omega
      have hzr := hKr.size
      have hKr2 : Kp s w.heap.size w w2 := hKr.trans (hK2.mono hzr)
      go_wp2
      exact ⟨⟨_, k - 1, rfl, rfl, by omega, by rw [ByteArray.size_append, ByteArray.size_extract]; omega, hS2, hKr2⟩, by simp only [intOf]; omega⟩
    · have hz' : decide (0 < k) = false := decide_eq_false hz
      go_wp2
      go_returns
      exact ⟨str, rfl, by omega, hSr, hKr⟩
end Go.Proofs.Ytgpnfjpnbchglaa
