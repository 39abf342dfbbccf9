/- The law of MatrixOfChain. -/
import Derived.Test.YtmopjfjmmdnapaaHB
namespace Go.Proofs.Ytmopjfjmmdnapaa
open Go.RowKit
set_option linter.unusedVariables false
set_option linter.unusedSimpArgs false
attribute [local go_sem] run_min_int4 run_max_int4
theorem chainV_nil (sg : Int) : chainV sg [] = .tuple #[.agg #[.int .i64 0, .int .i64 0, .int .i64 0, .int .i64 0], .int .i64 2] := chainV_no (fun h => by have := h.2.1; simp at this)
theorem MatrixOfChain_nil (sg : Int) (wsg : (Lit.int .i64 sg).wf = true) (a : Option Addr) (c : Nat) (w : World) :
    Calls Try.prog 36 #[.int .i64 sg, .slice a 0 c] w fun e w' => e = .returned (chainV sg []) ∧ Below w.heap.size w w' := by
  rw [chainV_nil]
  obtain ⟨ms, hms, hsize⟩ := size_any sg (w.alloc (Obj.cells #[.int .i64 0, .int .i64 0, .int .i64 0, .int .i64 0] 26)) wsg
  have HSZ := Lib.hid hsize
  clear hsize wsg
  by_cases h1 : ms = 1
  · subst h1
    clear hms
    go_enter Try.func36, Try.ntmps36
    go_wp2_with fail
    refine HSZ.out.mono ?_
    rintro e w' ⟨rfl, rfl⟩
    go_wp2
    exact bodyPost_ret (v := .tuple #[.agg #[.int .i64 0, .int .i64 0, .int .i64 0, .int .i64 0], .int .i64 2]) (by simp only [results, Try.results36]; go_simp) rfl ⟨rfl, (by repeat' (first | (with_reducible exact Below.refl _ _) | (with_reducible assumption) | (with_reducible refine below_drewN ?_ _) | (with_reducible refine Below.drew ?_) | (with_reducible refine Below.alloc ?_ ?_ _) | (with_reducible refine Below.setCell ?_ ?_ _) | (with_reducible refine Below.trans ?_ (Below.mono (by with_reducible assumption) ?_)) | go_size | (dsimp only; omega)))⟩
  · have h2 : (ms == 1) = false := by simpa using h1
    clear hms
    go_enter Try.func36, Try.ntmps36
    go_wp2_with fail
    refine HSZ.out.mono ?_
    rintro e w' ⟨rfl, rfl⟩
    go_wp2
    exact bodyPost_ret (v := .tuple #[.agg #[.int .i64 0, .int .i64 0, .int .i64 0, .int .i64 0], .int .i64 2]) (by simp only [results, Try.results36]; go_simp) rfl ⟨rfl, (by repeat' (first | (with_reducible exact Below.refl _ _) | (with_reducible assumption) | (with_reducible refine below_drewN ?_ _) | (with_reducible refine Below.drew ?_) | (with_reducible refine Below.alloc ?_ ?_ _) | (with_reducible refine Below.setCell ?_ ?_ _) | (with_reducible refine Below.trans ?_ (Below.mono (by with_reducible assumption) ?_)) | go_size | (dsimp only; omega)))⟩
theorem MatrixOfChain_c (sg : Int) (wsg : (Lit.int .i64 sg).wf = true) (v : Value) (zs : List Int) (w : World) (h : InI w v zs) (hm : zs.length ≤ 1000000000) :
    Calls Try.prog 36 #[.int .i64 sg, v] w fun e w' => e = .returned (chainV sg zs) ∧ Below w.heap.size w w' := by
  rcases h with ⟨rfl, a, c, rfl⟩ | ⟨b, o, c, rfl, hb, hr⟩
  · exact MatrixOfChain_nil sg wsg a c w
  · by_cases h0 : zs = []
    · subst h0; exact MatrixOfChain_nil sg wsg _ c w
    · exact MatrixOfChain_row sg wsg b o c zs w hb hr hm h0
theorem sMatrixOfChain_nil (sg : Int) (a : Option Addr) (c : Nat) (w : World) :
    Calls Try.prog 35 #[.int .i64 sg, .slice a 0 c] w fun e w' => e = .returned (chainV sg []) ∧ Below w.heap.size w w' := by
  rw [chainV_nil]
  by_cases s1 : sg = 1
  · subst s1
    go_enter Try.func35, Try.ntmps35
    go_wp2
    exact bodyPost_ret (v := .tuple #[.agg #[.int .i64 0, .int .i64 0, .int .i64 0, .int .i64 0], .int .i64 2]) (by simp only [results, Try.results35]; go_simp) rfl ⟨rfl, (by repeat' (first | (with_reducible exact Below.refl _ _) | (with_reducible assumption) | (with_reducible refine below_drewN ?_ _) | (with_reducible refine Below.drew ?_) | (with_reducible refine Below.alloc ?_ ?_ _) | (with_reducible refine Below.setCell ?_ ?_ _) | (with_reducible refine Below.trans ?_ (Below.mono (by with_reducible assumption) ?_)) | go_size | (dsimp only; omega)))⟩
  by_cases s2 : sg = -1
  · subst s2
    go_enter Try.func35, Try.ntmps35
    go_wp2
    exact bodyPost_ret (v := .tuple #[.agg #[.int .i64 0, .int .i64 0, .int .i64 0, .int .i64 0], .int .i64 2]) (by simp only [results, Try.results35]; go_simp) rfl ⟨rfl, (by repeat' (first | (with_reducible exact Below.refl _ _) | (with_reducible assumption) | (with_reducible refine below_drewN ?_ _) | (with_reducible refine Below.drew ?_) | (with_reducible refine Below.alloc ?_ ?_ _) | (with_reducible refine Below.setCell ?_ ?_ _) | (with_reducible refine Below.trans ?_ (Below.mono (by with_reducible assumption) ?_)) | go_size | (dsimp only; omega)))⟩
  · have s3 : (sg == 1) = false := by simpa using s1
    have s4 : (sg == -1) = false := by simpa using s2
    go_enter Try.func35, Try.ntmps35
    go_wp2
    exact bodyPost_ret (v := .tuple #[.agg #[.int .i64 0, .int .i64 0, .int .i64 0, .int .i64 0], .int .i64 2]) (by simp only [results, Try.results35]; go_simp) rfl ⟨rfl, (by repeat' (first | (with_reducible exact Below.refl _ _) | (with_reducible assumption) | (with_reducible refine below_drewN ?_ _) | (with_reducible refine Below.drew ?_) | (with_reducible refine Below.alloc ?_ ?_ _) | (with_reducible refine Below.setCell ?_ ?_ _) | (with_reducible refine Below.trans ?_ (Below.mono (by with_reducible assumption) ?_)) | go_size | (dsimp only; omega)))⟩
theorem sMatrixOfChain_c (sg : Int) (wsg : (Lit.int .i64 sg).wf = true) (v : Value) (zs : List Int) (w : World) (h : InI w v zs) (hm : zs.length ≤ 1000000000) :
    Calls Try.prog 35 #[.int .i64 sg, v] w fun e w' => e = .returned (chainV sg zs) ∧ Below w.heap.size w w' := by
  rcases h with ⟨rfl, a, c, rfl⟩ | ⟨b, o, c, rfl, hb, hr⟩
  · exact sMatrixOfChain_nil sg a c w
  · by_cases h0 : zs = []
    · subst h0; exact sMatrixOfChain_nil sg _ c w
    · exact sMatrixOfChain_row sg b o c zs w hb hr hm h0
set_option maxHeartbeats 4000000 in
theorem MatrixOfChain_lawL (sg : Int) (wsg : (Lit.int .i64 sg).wf = true) (a : Value) (ys : List Int) (len cap : Nat) (aa : Option Addr) (ha : a = .slice aa len cap) (W : World) (hi : InI W a ys) (hly : ys.length = len) (hl : len ≤ 1048576) :
    Calls Try.prog 9 #[.int .i64 sg, a] W fun e w' => e = .returned (.bool true) ∧ Below W.heap.size W w' := by
  have hn : ¬ (1048576 < (len : Int)) := by omega
  obtain ⟨x0, x1, x2, x3, x4, hx⟩ := chainV_form sg ys
  have HX := Lib.hid hx
  have HI := Lib.hid hi
  have HL := Lib.hid hly
  subst ha
  have HW := Lib.hid wsg
  clear hx hi hly wsg
  go_enter Try.func9, Try.ntmps9
  go_wp2_with fail
  refine (toInt64S_c _ ys _ HI.out (by rw [HL.out]; exact hl)).mono ?_
  rintro e w1 ⟨v1, rfl, ho1, b1⟩
  have HO1 := Lib.hid ho1
  clear ho1
  go_wp2_with fail
  refine (sMatrixOfChain_c sg HW.out v1 ys _ HO1.out.inI (by rw [HL.out]; omega)).mono ?_
  rintro e wa ⟨rfl, ba⟩
  rw [HX.out]
  have z1 := b1.size
  have za := ba.size
  have BWa : Below W.heap.size W wa := Below.trans b1 (Below.mono ba z1)
  go_wp2_with fail
  have hIa : InI (wa.alloc (Obj.cells #[.int .i64 x0, .int .i64 x1, .int .i64 x2, .int .i64 x3] 26)) (.slice aa len cap) ys := HI.out.below (C := W.heap.size) (Below.alloc BWa (by omega) _) (Nat.le_refl _)
  have HIa := Lib.hid hIa
  clear hIa
  refine (toInt64S_c _ ys _ HIa.out (by rw [HL.out]; exact hl)).mono ?_
  rintro e w2 ⟨v2, rfl, ho2, b2⟩
  have HO2 := Lib.hid ho2
  clear ho2
  have zzb2 := b2.size; (try simp at zzb2); have zb2_0 : wa.heap.size < w2.heap.size := (by omega); have kcb2_0 : ∀ o, w2.cell? ⟨wa.heap.size, o, none⟩ = _ := fun o => b2.cell (p := ⟨wa.heap.size, o, none⟩) (by go_size); have kfb2_0 : ∀ o, w2.frozen? ⟨wa.heap.size, o, none⟩ = _ := fun o => b2.frozen (p := ⟨wa.heap.size, o, none⟩) (by go_size); clear zzb2
  have z2 := b2.size
  simp only [World.size_alloc] at z2
  go_wp2_with fail
  refine (MatrixOfChain_c sg HW.out v2 ys _ HO2.out.inI (by rw [HL.out]; omega)).mono ?_
  rintro e wb ⟨rfl, bb⟩
  rw [HX.out]
  have zzbb := bb.size; (try simp at zzbb); have zbb_0 : wa.heap.size < wb.heap.size := (by omega); have kcbb_0 : ∀ o, wb.cell? ⟨wa.heap.size, o, none⟩ = _ := fun o => bb.cell (p := ⟨wa.heap.size, o, none⟩) (by go_size); have kfbb_0 : ∀ o, wb.frozen? ⟨wa.heap.size, o, none⟩ = _ := fun o => bb.frozen (p := ⟨wa.heap.size, o, none⟩) (by go_size); clear zzbb
  have zb := bb.size
  go_wp2_with fail
  refine (eqMatrix_same _ _ _ _ _).mono ?_
  rintro e w5 ⟨rfl, b5⟩
  have z5 := b5.size
  simp only [World.size_alloc] at z5
  have B2b : Below w2.heap.size w2 w5 := Below.trans (Below.alloc bb zb _) (Below.mono b5 (by simp; omega))
  have BW5 : Below W.heap.size W w5 := Below.trans (Below.trans (Below.alloc BWa (by omega) _) (Below.mono b2 (by simp; omega))) (Below.mono B2b (by omega))
  have HI5 := Lib.hid (HI.out.below (C := W.heap.size) BW5 (Nat.le_refl _))
  have HO5 := Lib.hid (HO2.out.below B2b (Nat.le_refl _))
  go_wp2_with fail
  refine (toInt64S_c _ ys _ HI5.out (by rw [HL.out]; exact hl)).mono ?_
  rintro e w6 ⟨v3, rfl, ho6, b6⟩
  have HO6 := Lib.hid ho6
  have HO56 := Lib.hid (HO5.out.below b6 (Nat.le_refl _))
  have z6 := b6.size
  clear ho6
  go_wp2_with fail
  refine (eqI_c _ _ _ _ ys _ (by rw [HL.out]; omega) HO56.out HO6.out).mono ?_
  rintro e w7 ⟨rfl, m, hw7⟩
  have B7 : Below W.heap.size W w7 := by subst hw7; exact below_drewN (Below.trans BW5 (Below.mono b6 (by omega))) _
  clear hw7
  go_wp2
  go_returns
  exact ⟨rfl, B7⟩
theorem FnExactMatrixOfChain_w (n0 : Int) (w0 : (Lit.int .i64 n0).wf = true) (a : Option Addr) (len cap : Nat) (zs : List Int) (W : World) (hr : IsRow .i64 W a len cap zs) (hl : len * 8 ≤ 140737488351232) :
    Calls Try.prog 9 #[.int .i64 n0, .slice a len cap] W fun e w' => e = .returned (.bool true) ∧ Below W.heap.size W w' := by
  obtain ⟨hi, hlen⟩ := inI_isRow hr
  by_cases hb : len ≤ 1048576
  · exact MatrixOfChain_lawL n0 w0 _ _ len cap a rfl W hi hlen hb
  · have hn : 1048576 < (len : Int) := by omega
    clear hr hi hlen w0
    go_enter Try.func9, Try.ntmps9
    go_wp2
    go_returns
    exact ⟨rfl, Below.refl _ _⟩
end Go.Proofs.Ytmopjfjmmdnapaa
