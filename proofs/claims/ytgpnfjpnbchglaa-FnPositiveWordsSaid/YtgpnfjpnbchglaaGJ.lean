/- Draws of chains and of words. -/
import Derived.Test.YtgpnfjpnbchglaaGH
import Derived.Test.YtgpnfjpnbchglaaAE
import Derived.Laws.IdiomStrings
namespace Go.Proofs.Ytgpnfjpnbchglaa
open Go.RowKit
set_option linter.unusedVariables false
set_option linter.unusedSimpArgs false
theorem own_kp {s base n size : Nat} {w w' : World} {e : TypeId} {v : Value} {xs : List Value} (h : w.ownsRow base e size v n xs) (hk : Kp s w.heap.size w w') (hs : s < base) : w'.ownsRow base e size v n xs := by
  have hlt := h.lt
  obtain ⟨h1, h2⟩ := h
  refine ⟨h1, h2.imp id (fun ⟨g, cap, cur, h1, h2, h3, h4⟩ => ⟨g, cap, cur, h1, h2, ?_, h4⟩)⟩
  rw [hk.block g (by have := (hlt g (by rw [h1]; rfl)).2; omega) (by omega)]; exact h3
theorem OwnI.kp {s B : Nat} {w w' : World} {v : Value} {zs : List Int} (h : OwnI B w v zs) (hk : Kp s w.heap.size w w') (hs : s < B) : OwnI B w' v zs := by
  rcases h with h | ⟨g, c, h1, h2, h3, h4, h5⟩
  · exact .inl h
  · refine .inr ⟨g, c, h1, h2, Nat.lt_of_lt_of_le h3 hk.size, fun k hk' => ?_, fun i => ?_⟩
    · rw [hk.cell (p := ⟨g, 0 + k, none⟩) h3 (by dsimp only; omega)]; exact h4 k hk'
    · rw [hk.frozen (p := ⟨g, i, none⟩) h3 (by dsimp only; omega)]; exact h5 i
theorem OwnI.alloc {B : Nat} {w : World} {v : Value} {zs : List Int} (h : OwnI B w v zs) (o : Obj) : OwnI B (w.alloc o) v zs := h.below (Below.alloc (Below.refl _ _) (Nat.le_refl _) o) (Nat.le_refl _)
theorem ownI_set {B g c : Nat} {w : World} {zs : List Int} (x : Int) (h0 : zs ≠ []) (hb : B ≤ g) (hg : g < w.heap.size) (hr : RowI w g 0 zs) (hf : ∀ i, w.frozen? ⟨g, i, none⟩ = false) :
    OwnI B (w.setCell ⟨g, 0, none⟩ (.int .i64 x)) (.slice (some ⟨g, 0, none⟩) zs.length c) (zs.set 0 x) := by
  have hl : 0 < zs.length := List.length_pos_iff.mpr h0
  refine .inr ⟨g, c, by rw [List.length_set], hb, by simpa using hg, ?_, ?_⟩
  · intro k hk
    rw [List.length_set] at hk
    have h1 := hr k hk
    have h2 := hr 0 hl
    by_cases hk0 : k = 0
    · subst hk0
      have e : (zs.set 0 x).getD 0 0 = x := by simp [List.getD, hl]
      rw [e]
      go_simp
    · have e : (zs.set 0 x).getD k 0 = zs.getD k 0 := by
        simp [List.getD, List.getElem?_set, Ne.symm hk0]
      rw [e]
      have hk1 : ¬ 0 + k = 0 := by omega
      have hk2 : ¬ k = 0 := hk0
      have hk3 : ¬ 0 = k := fun h => hk0 h.symm
      clear e
      generalize zs.getD k 0 = y at h1 ⊢
      rw [Nat.zero_add] at h1
      go_simp
  · intro i
    have := hf i
    go_simp
theorem sign_wf {x : Int} (h : x ∈ [(1 : Int), 1, -1, 1, 0]) : (Lit.int .i64 x).wf = true := by
  simp only [List.mem_cons, List.not_mem_nil, or_false] at h
  rcases h with rfl | rfl | rfl | rfl | rfl <;> decide
theorem sign_wf3 {x : Int} (h : x ∈ [(0 : Int), 2, 1]) : (Lit.int .i64 x).wf = true := by
  simp only [List.mem_cons, List.not_mem_nil, or_false] at h
  rcases h with rfl | rfl | rfl <;> decide
set_option maxRecDepth 100000 in
set_option maxHeartbeats 4000000 in
theorem drawMatrixOfChain_c (v : Value) (w : World) (hv : CodeV w v) :
    Calls Try.prog 10 #[v] w fun e w' => ∃ (sg : Int) (l : Value) (zs : List Int), e = .returned (.tuple #[.int .i64 sg, l]) ∧ (Lit.int .i64 sg).wf = true ∧ OwnI w.heap.size w' l zs ∧ zs.length ≤ 1000 ∧ Below w.heap.size w w' := by
  obtain ⟨i0, hi, hz0, hz1, hz2⟩ := info_parts info_i64
  go_enter Try.func10, Try.ntmps10
  go_wp2_with fail
  refine (from_c v w hv).mono ?_
  rintro e w1 ⟨s, rfl, hs, hS1, b1⟩
  have hs1 := hS1.lt
  have hq1 := b1.size
  obtain ⟨B, hB⟩ : ∃ B, w1.heap.size = B := ⟨_, rfl⟩
  have hown0 := own_new w1 B 2 1 (by omega)
  rw [hB] at hown0
  go_wp2_with fail
  generalize hw2 : World.alloc (World.alloc _ _) _ = w2
  have hown2 : w2.ownsRow B 2 1 (.slice (some ⟨B, 0, none⟩) 0 0) 0 [] := by subst hw2; exact hown0.alloc _
  have hS2 : Src s w2 := by subst hw2; exact (by repeat' (first | (with_reducible assumption) | (with_reducible refine Src.drewN ?_ _) | (with_reducible refine Src.drew ?_) | (with_reducible refine Src.alloc ?_ _) | (with_reducible refine Src.setCell ?_ ?_ _) | (with_reducible refine Src.below ?_ (by with_reducible assumption) ?_) | go_size | (dsimp only; omega)))
  have hL2 : RowI w2 (B + 1) 0 [3, 6, 14] := by subst hw2; (have h := rowI_alloc (w1.alloc (Obj.cells #[] 2)) [3, 6, 14] 2); simpa [hB] using h
  have hb2 : Below w.heap.size w w2 := by subst hw2; exact (by repeat' (first | (with_reducible exact Below.refl _ _) | (with_reducible assumption) | (with_reducible refine below_drewN ?_ _) | (with_reducible refine Below.drew ?_) | (with_reducible refine Below.alloc ?_ ?_ _) | (with_reducible refine Below.setCell ?_ ?_ _) | (with_reducible refine Below.trans ?_ (Below.mono (by with_reducible assumption) ?_)) | go_size | (dsimp only; omega)))
  have hz2' : B + 1 < w2.heap.size := by subst hw2; go_size
  (try rw [hB])
  clear hw2 hown0
  refine (pick_c s (B + 1) _ [3, 6, 14] _ hS2 hz2' (by omega) hL2 (by decide) (by decide)).mono ?_
  rintro e w3 ⟨x, rfl, hx, hS3, hK3⟩
  have hxb : 1 ≤ x ∧ x ≤ 14 := by simp at hx; omega
  have hown3 := own_kp hown2 hK3 (by omega)
  have hz3 := hK3.size
  have hb3 : Below w.heap.size w w3 := hb2.trans ((hK3.mono (by omega)).below hs)
  clear hown2 hS2 hL2 hb2 hK3 hx
  go_wp2_with fail
  refine (next_c s x _ hS3 (by omega) (by omega)).mono ?_
  rintro e w4 ⟨y, rfl, hy0, hy1, hS4, hK4⟩
  have hy2 := hy1 (by omega)
  have hown4 := own_kp hown3 hK4 (by omega)
  have hz4 := hK4.size
  have hb4 : Below w.heap.size w w4 := hb3.trans ((hK4.mono (by omega)).below hs)
  clear hown3 hS3 hb3 hK4 hy1
  go_wp2
  go_loopw [5, 6] (fun vl vk wr => ∃ (k : Int) (n : Nat) (zs : List Int), vk = .int .i64 k ∧ 0 ≤ k ∧ k + n ≤ 15 ∧ 1 ≤ k + n ∧ zs.length = n ∧ wr.ownsRow B 2 1 vl n (zs.map (Value.int .i64)) ∧ Src s wr ∧ Below w.heap.size w wr ∧ B < wr.heap.size) (fun vl vk wr => (intOf vk).toNat)
  case atStart => exact ⟨1 + y, 0, [], rfl, by omega, by omega, by omega, rfl, hown4, hS4, hb4, by omega⟩
  case round =>
    clear hown4 hS4 hb4
    obtain ⟨k, n, zs, rfl, hk0, hk1, hk2, hzn, hown, hSr, hBr, hzr⟩ := hrel
    by_cases hz : 0 < k
    · have hz' : decide (0 < k) = true := decide_eq_true hz
      have HZN := Lib.hid hzn
      clear hzn
      go_wp2_with fail
      refine (pick_c s _ _ [5, 9, 2000] _ (by repeat' (first | (with_reducible assumption) | (with_reducible refine Src.drewN ?_ _) | (with_reducible refine Src.drew ?_) | (with_reducible refine Src.alloc ?_ _) | (with_reducible refine Src.setCell ?_ ?_ _) | (with_reducible refine Src.below ?_ (by with_reducible assumption) ?_) | go_size | (dsimp only; omega))) (by go_size) (by first | (dsimp only; omega) | (simp; omega)) (rowI_alloc _ [5, 9, 2000] _) (by decide) (by decide)).mono ?_
      rintro e w6 ⟨x6, rfl, hx6, hS6, hK6⟩
      have hx6b : 1 ≤ x6 ∧ x6 ≤ 2000 := by simp at hx6; omega
      have hown6 := own_kp (hown.alloc _) hK6 (by omega)
      have hz6 := hK6.size
      simp only [World.size_alloc] at hz6
      have hb6 : Below w.heap.size w w6 := (Below.alloc hBr (by omega) _).trans ((hK6.mono (by simp only [World.size_alloc]; omega)).below hs)
      clear hown hSr hBr hK6 hx6
      go_wp2_with fail
      refine (next_c s x6 _ hS6 (by omega) (by omega)).mono ?_
      rintro e w7 ⟨y7, rfl, hy70, hy71, hS7, hK7⟩
      have hy72 := hy71 (by omega)
      have hown7 := own_kp hown6 hK7 (by omega)
      have hz7 := hK7.size
      have hb7 : Below w.heap.size w w7 := hb6.trans ((hK7.mono (by omega)).below hs)
      clear hown6 hS6 hb6 hK7 hy71
      go_wp2_with (at_builtin; refine wpList_append_own _ rfl _ _ 27 rfl B 2 i0 (.int .i64 0) 1 8 under_i64s hi hz0 hz1 hz2 rfl (by decide) _ _ _ rfl (hown7.alloc _) ⟨w7.heap.size, 0, none⟩ 1 1 [.int .i64 (y7 - 2)] rfl rfl (cell_one_new _ _ _) (fun x hx => by simp at hx; subst hx; rfl) (by unfold maxLen; omega) (by omega) (by simp; omega) ?_; intro v' w8 hown8 hgrow8 hnil8; obtain ⟨hB8, hs8, fc8, ff8⟩ := app_after hown7 hgrow8 (Below.refl B w7) (Nat.le_refl _) (by omega); clear fc8 ff8 hgrow8 hnil8)
      have hS8 := hS7.below hB8 (by omega)
      have hb8 : Below w.heap.size w w8 := hb7.trans (hB8.mono (by omega))
      go_roundw
      case rel => exact ⟨k - 1, n + 1, zs ++ [y7 - 2], rfl, by omega, by omega, by omega, by rw [List.length_append, HZN.out]; rfl, by rw [List.map_append]; exact hown8, hS8, hb8, by omega⟩
      case measure => simp [intOf]; omega
    · have hz' : decide (0 < k) = false := decide_eq_false hz
      have hn1 : 1 ≤ n := by omega
      have hO := OwnI.of_row (by rw [hzn]; exact hown)
      have hne : zs ≠ [] := by intro e; rw [e] at hzn; simp at hzn; omega
      have hzl : zs.length ≤ 1000 := by omega
      rcases hO with ⟨e0, -⟩ | ⟨g, c, hvl, hg1, hg2, hrow, hfz⟩
      · exact absurd e0 hne
      subst hvl
      have hOr : OwnI B wr (.slice (some ⟨g, 0, none⟩) zs.length c) zs := .inr ⟨g, c, rfl, hg1, hg2, hrow, hfz⟩
      clear hown hrow hfz hg2
      go_wp2_with fail
      refine (next_c s 20 _ hSr (by omega) (by omega)).mono ?_
      rintro e w6 ⟨z, rfl, -, -, hS6, hK6⟩
      have hO6 := hOr.kp hK6 (by omega)
      have hz6 := hK6.size
      have hb6 : Below w.heap.size w w6 := hBr.trans ((hK6.mono (by omega)).below hs)
      clear hOr hSr hBr hK6
      by_cases h0 : z = 0
      · subst h0
        go_wp2_with fail
        generalize hw7 : World.alloc _ _ = w7
        have hL7 : RowI w7 w6.heap.size 0 [1000000001, -1000000000, -9223372036854775808] := by subst hw7; exact rowI_alloc w6 [1000000001, -1000000000, -9223372036854775808] 2
        have hS7 : Src s w7 := by subst hw7; exact (by repeat' (first | (with_reducible assumption) | (with_reducible refine Src.drewN ?_ _) | (with_reducible refine Src.drew ?_) | (with_reducible refine Src.alloc ?_ _) | (with_reducible refine Src.setCell ?_ ?_ _) | (with_reducible refine Src.below ?_ (by with_reducible assumption) ?_) | go_size | (dsimp only; omega)))
        have hO7 : OwnI B w7 (.slice (some ⟨g, 0, none⟩) zs.length c) zs := by subst hw7; exact hO6.alloc _
        have hb7 : Below w.heap.size w w7 := by subst hw7; exact (by repeat' (first | (with_reducible exact Below.refl _ _) | (with_reducible assumption) | (with_reducible refine below_drewN ?_ _) | (with_reducible refine Below.drew ?_) | (with_reducible refine Below.alloc ?_ ?_ _) | (with_reducible refine Below.setCell ?_ ?_ _) | (with_reducible refine Below.trans ?_ (Below.mono (by with_reducible assumption) ?_)) | go_size | (dsimp only; omega)))
        have hz7 : w6.heap.size < w7.heap.size := by subst hw7; go_size
        clear hw7 hS6 hO6 hb6
        refine (pick_c s w6.heap.size _ [1000000001, -1000000000, -9223372036854775808] _ hS7 hz7 (by omega) hL7 (by decide) (by decide)).mono ?_
        rintro e w8 ⟨x8, rfl, -, hS8, hK8⟩
        have hO8 := hO7.kp hK8 (by omega)
        have hz8 := hK8.size
        have hb8 : Below w.heap.size w w8 := hb7.trans ((hK8.mono (by omega)).below hs)
        clear hO7 hS7 hb7 hK8 hL7
        rcases hO8 with ⟨e0, -⟩ | ⟨g', c', hv', hg1', hg2', hrow', hfz'⟩
        · exact absurd e0 hne
        obtain rfl : g = g' := by injection hv' with e; injection e with e; injection e
        have hO9 := ownI_set (c := c) x8 hne hg1' hg2' hrow' hfz'
        have q0 : w8.cell? ⟨g, 0, none⟩ = some (.int .i64 (zs.getD 0 0)) := hrow' 0 (by omega)
        have hf0 := hfz' 0
        have hS9 : Src s (w8.setCell ⟨g, 0, none⟩ (.int .i64 x8)) := hS8.setCell (by dsimp only; omega) _
        have hb9 : Below w.heap.size w (w8.setCell ⟨g, 0, none⟩ (.int .i64 x8)) := Below.setCell hb8 (by dsimp only; omega) _
        have hn' : 0 < zs.length := by omega
        clear hrow' hv'
        go_wp2_with fail
        generalize hw9 : World.alloc _ _ = w9
        have hL9 : RowI w9 w8.heap.size 0 [1, 1, -1, 1, 0] := by subst hw9; (have h := rowI_alloc (w8.setCell ⟨g, 0, none⟩ (.int .i64 x8)) [1, 1, -1, 1, 0] 2); simpa using h
        have hS10 : Src s w9 := by subst hw9; exact hS9.alloc _
        have hO10 : OwnI B w9 (.slice (some ⟨g, 0, none⟩) zs.length c) (zs.set 0 x8) := by subst hw9; exact hO9.alloc _
        have hb10 : Below w.heap.size w w9 := by subst hw9; exact Below.alloc hb9 (by go_size) _
        have hz10 : w8.heap.size < w9.heap.size := by subst hw9; go_size
        clear hw9 hS9 hO9 hb9
        refine (pick_c s w8.heap.size _ [1, 1, -1, 1, 0] _ hS10 hz10 (by omega) hL9 (by decide) (by decide)).mono ?_
        rintro e w11 ⟨x11, rfl, hx11, hS11, hK11⟩
        have hO11 := hO10.kp hK11 (by omega)
        rw [hzn] at hO11
        have hb11 : Below w.heap.size w w11 := hb10.trans ((hK11.mono (by omega)).below hs)
        have hwf := sign_wf hx11
        clear hx11
        go_wp2
        go_returns
        exact ⟨x11, _, zs.set 0 x8, rfl, hwf, hO11.base (B' := w.heap.size) (by omega), by rw [List.length_set]; exact hzl, hb11⟩
      have h0' : (z == 0) = false := by simpa using h0
      by_cases h1 : z = 1
      · subst h1
        go_wp2_with fail
        refine (pick_c s _ _ [0, 2, 1] _ (by repeat' (first | (with_reducible assumption) | (with_reducible refine Src.drewN ?_ _) | (with_reducible refine Src.drew ?_) | (with_reducible refine Src.alloc ?_ _) | (with_reducible refine Src.setCell ?_ ?_ _) | (with_reducible refine Src.below ?_ (by with_reducible assumption) ?_) | go_size | (dsimp only; omega))) (by go_size) (by first | (dsimp only; omega) | (simp; omega)) (rowI_alloc _ [0, 2, 1] _) (by decide) (by decide)).mono ?_
        rintro e w8 ⟨x8, rfl, hx8, hS8, hK8⟩
        have hwf := sign_wf3 hx8
        have hz8 := hK8.size
        simp only [World.size_alloc] at hz8
        have hb8 : Below w.heap.size w w8 := (Below.alloc hb6 (by omega) _).trans ((hK8.mono (by simp only [World.size_alloc]; omega)).below hs)
        clear hx8
        go_wp2
        go_returns
        exact ⟨x8, _, [], rfl, hwf, .inl ⟨rfl, _, _, rfl⟩, by simp, (by repeat' (first | (with_reducible exact Below.refl _ _) | (with_reducible assumption) | (with_reducible refine below_drewN ?_ _) | (with_reducible refine Below.drew ?_) | (with_reducible refine Below.alloc ?_ ?_ _) | (with_reducible refine Below.setCell ?_ ?_ _) | (with_reducible refine Below.trans ?_ (Below.mono (by with_reducible assumption) ?_)) | go_size | (dsimp only; omega)))⟩
      have h1' : (z == 1) = false := by simpa using h1
      go_wp2_with fail
      generalize hw9 : World.alloc _ _ = w9
      have hL9 : RowI w9 w6.heap.size 0 [1, 1, -1, 1, 0] := by subst hw9; exact rowI_alloc w6 [1, 1, -1, 1, 0] 2
      have hS10 : Src s w9 := by subst hw9; exact hS6.alloc _
      have hO10 : OwnI B w9 (.slice (some ⟨g, 0, none⟩) zs.length c) zs := by subst hw9; exact hO6.alloc _
      have hb10 : Below w.heap.size w w9 := by subst hw9; exact Below.alloc hb6 (by omega) _
      have hz10 : w6.heap.size < w9.heap.size := by subst hw9; go_size
      clear hw9 hS6 hO6 hb6
      refine (pick_c s w6.heap.size _ [1, 1, -1, 1, 0] _ hS10 hz10 (by omega) hL9 (by decide) (by decide)).mono ?_
      rintro e w11 ⟨x11, rfl, hx11, hS11, hK11⟩
      have hO11 := hO10.kp hK11 (by omega)
      rw [hzn] at hO11
      have hb11 : Below w.heap.size w w11 := hb10.trans ((hK11.mono (by omega)).below hs)
      have hwf := sign_wf hx11
      clear hx11
      go_wp2
      go_returns
      exact ⟨x11, _, zs, rfl, hwf, hO11.base (B' := w.heap.size) (by omega), hzl, hb11⟩
def strSz : Value → Nat
  | .string s => s.size
  | _ => 0
set_option maxRecDepth 100000 in
set_option maxHeartbeats 4000000 in
theorem drawMatrixOfWord_c (v : Value) (w : World) (hv : CodeV w v) :
    Calls Try.prog 13 #[v] w fun e w' => ∃ str : ByteArray, e = .returned (.string str) ∧ str.size ≤ 1000 ∧ Below w.heap.size w w' := by
  go_enter Try.func13, Try.ntmps13
  go_wp2_with fail
  refine (from_c v w hv).mono ?_
  rintro e w1 ⟨s, rfl, hs, hS1, b1⟩
  have hs1 := hS1.lt
  have hz1 := b1.size
  go_wp2_with fail
  refine (pick_c s _ _ [4, 12, 40, 80] _ (by repeat' (first | (with_reducible assumption) | (with_reducible refine Src.drewN ?_ _) | (with_reducible refine Src.drew ?_) | (with_reducible refine Src.alloc ?_ _) | (with_reducible refine Src.setCell ?_ ?_ _) | (with_reducible refine Src.below ?_ (by with_reducible assumption) ?_) | go_size | (dsimp only; omega))) (by go_size) (by first | (dsimp only; omega) | (simp; omega)) (rowI_alloc _ [4, 12, 40, 80] _) (by decide) (by decide)).mono ?_
  rintro e w2 ⟨x, rfl, hx, hS2, hK2⟩
  have hxb : 4 ≤ x ∧ x ≤ 80 := by simp at hx; omega
  have hz2 := hK2.size
  simp only [World.size_alloc] at hz2
  have hb2 : Below w.heap.size w w2 := (Below.alloc b1 (by omega) _).trans ((hK2.mono (by simp only [World.size_alloc]; omega)).below hs)
  clear hx hS1 b1 hK2
  go_wp2_with fail
  refine (drawLetters_c s ⟨#[83, 84, 116, 76, 108]⟩ x _ hS2 (by decide) (by decide) (by omega) (by omega)).mono ?_
  rintro e w3 ⟨str, rfl, hstr, hS3, hK3⟩
  have hz3 := hK3.size
  have hb3 : Below w.heap.size w w3 := hb2.trans ((hK3.mono (by omega)).below hs)
  clear hS2 hb2 hK3
  go_wp2_with fail
  refine (next_c s 16 _ hS3 (by omega) (by omega)).mono ?_
  rintro e w4 ⟨y, rfl, hy0, hy1, hS4, hK4⟩
  have hz4 := hK4.size
  have hb4 : Below w.heap.size w w4 := hb3.trans ((hK4.mono (by omega)).below hs)
  clear hS3 hb3 hK4 hy1
  by_cases h0 : y = 0
  · subst h0
    go_wp2
    go_returns
    exact ⟨_, rfl, by rw [ByteArray.size_append]; (have e1 : (⟨#[85]⟩ : ByteArray).size = 1 := rfl); omega, hb4⟩
  have h0' : (y == 0) = false := by simpa using h0
  by_cases h1 : y = 1
  · subst h1
    go_wp2
    go_loopw [4] (fun vo wr => ∃ t : ByteArray, vo = .string t ∧ t.size ≤ 300 ∧ Src s wr ∧ Below w.heap.size w wr ∧ w1.heap.size ≤ wr.heap.size) (fun vo wr => 400 - strSz vo)
    case atStart => exact ⟨str, rfl, by omega, hS4, hb4, by omega⟩
    case round =>
      clear hS4 hb4
      obtain ⟨t, rfl, ht, hSr, hBr, hzr⟩ := hrel
      by_cases hl : t.size < 200
      · have hl' : ((t.size : Int) < 200) := by omega
        go_wp2_with fail
        refine (drawLetters_c s ⟨#[76, 84]⟩ 1 _ hSr (by decide) (by decide) (by omega) (by omega)).mono ?_
        rintro e w5 ⟨u, rfl, hu, hS5, hK5⟩
        have hb5 : Below w.heap.size w w5 := hBr.trans ((hK5.mono (by omega)).below hs)
        have hz5 := hK5.size
        have e1 : (⟨#[76]⟩ : ByteArray).size = 1 := rfl
        have f1 : ¬ (9223372036854775807 < t.size + u.size) := by omega
        have f2 : ¬ (9223372036854775807 < (t ++ u).size + 1) := by rw [ByteArray.size_append]; omega
        go_wp2
        go_roundw
        case rel => exact ⟨_, rfl, by rw [ByteArray.size_append, ByteArray.size_append]; omega, hS5, hb5, by omega⟩
        case measure => simp only [strSz, ByteArray.size_append]; omega
      · have hl' : ¬ ((t.size : Int) < 200) := by omega
        go_wp2_with fail
        refine (next_c s 2 _ hSr (by omega) (by omega)).mono ?_
        rintro e w5 ⟨z, rfl, hz0, hz1', hS5, hK5⟩
        have hz2' := hz1' (by omega)
        obtain ⟨k, rfl⟩ : ∃ k : Nat, z = k := ⟨z.toNat, by omega⟩
        have hb5 : Below w.heap.size w w5 := hBr.trans ((hK5.mono (by omega)).below hs)
        have hkt : 199 + k ≤ t.size := by omega
        go_wp2
        go_returns
        exact ⟨_, rfl, by rw [ByteArray.size_extract]; omega, hb5⟩
  have h1' : (y == 1) = false := by simpa using h1
  go_wp2
  go_returns
  exact ⟨str, rfl, by omega, hb4⟩
end Go.Proofs.Ytgpnfjpnbchglaa
