/- The law of FractionOfContinued. -/
import Derived.Test.YtmopjfjmmdnapaaNC
import Derived.Test.YtmopjfjmmdnapaaK
namespace Go.Proofs.Ytmopjfjmmdnapaa
open Go.RowKit
set_option linter.unusedVariables false
set_option linter.unusedSimpArgs false
theorem inI_isRow2 {W : World} {a : Option Addr} {len cap : Nat} {zs : List Int} (h : IsRow .i64 W a len cap zs) : InI W (.slice a len cap) (zs.take len) ∧ (zs.take len).length = len := by
  rcases h with ⟨rfl, rfl, rfl, rfl⟩ | ⟨x, rfl, h1, h2, h3, h4, h5⟩
  · exact ⟨.inl ⟨rfl, _, _, rfl⟩, rfl⟩
  · have hl : (zs.take len).length = len := by rw [List.length_take]; omega
    refine ⟨?_, hl⟩
    by_cases h0 : len = 0
    · subst h0; exact .inl ⟨by simp, _, _, rfl⟩
    · obtain ⟨b, o, spot⟩ := x
      have c0 := h4 0 (by omega)
      have hs : spot = none := by simpa [Addr.add] using World.cell?_spot c0
      subst hs
      have ad : ∀ j, (⟨b, o, none⟩ : Addr).add j = ⟨b, o + j, none⟩ := by
        intro j; by_cases hj : j = 0
        · subst hj; simp [Addr.add]
        · simp [Addr.add, hj]
      refine .inr ⟨b, o, cap, by rw [hl], ?_, ?_⟩
      · have := World.block_lt_of_cell? W _ c0
        rw [ad] at this; exact this
      · intro k hk
        rw [hl] at hk
        have := h4 k (by omega)
        rw [ad] at this
        rw [this]
        simp [List.getD, List.getElem?_take, hk]
theorem FractionOfContinued_nil (g : Nat) (w : World) :
    Calls Try.prog 23 #[.slice (some ⟨g, 0, none⟩) 0 0] w fun e w' => e = .returned (.tuple #[.agg #[.int .i64 0, .int .i64 0], .int .i64 2]) ∧ Below w.heap.size w w' := by
  have hcall : ∀ W : World, Calls Try.prog 54 #[.slice (some ⟨g, 0, none⟩) 0 0] W fun e w' => e = .returned (.bool false) ∧ W = w' := by
    intro W
    go_enter Try.func54, Try.ntmps54
    go_wp2
    go_returns
    exact ⟨rfl, rfl⟩
  go_enter Try.func23, Try.ntmps23
  go_wp2_with fail
  refine (hcall _).mono ?_
  rintro e w' ⟨rfl, rfl⟩
  go_wp2
  exact bodyPost_ret (v := .tuple #[.agg #[.int .i64 0, .int .i64 0], .int .i64 2]) (by simp only [results, Try.results23]; go_simp) rfl ⟨rfl, (by repeat' (first | (with_reducible exact Below.refl _ _) | (with_reducible assumption) | (with_reducible refine below_drewN ?_ _) | (with_reducible refine Below.drew ?_) | (with_reducible refine Below.alloc ?_ ?_ _) | (with_reducible refine Below.setCell ?_ ?_ _) | (with_reducible refine Below.trans ?_ (Below.mono (by with_reducible assumption) ?_)) | go_size | (dsimp only; omega)))⟩
theorem FractionOfContinued_c (v : Value) (ys : List Int) (w : World) (h : ∃ g, v = .slice (some ⟨g, 0, none⟩) ys.length ys.length) (hi : InI w v ys) (hl : ys.length ≤ 1000000000) :
    Calls Try.prog 23 #[v] w fun e w' => e = .returned (contV ys) ∧ Below w.heap.size w w' := by
  obtain ⟨g, rfl⟩ := h
  by_cases h0 : ys = []
  · subst h0
    rw [contV_no (fun h => by have := h.1; simp at this)]
    exact FractionOfContinued_nil g w
  · have hp := List.length_pos_iff.mpr h0
    rcases hi with ⟨h, _⟩ | ⟨b, o, c, hv, hb, hr⟩
    · exact absurd h h0
    · injection hv with e1 e2 e3
      injection e1 with e1
      injection e1 with e1 e4
      subst e1 e4
      exact FractionOfContinued_row _ ys.length ys w hb (Lib.hid hr) (Lib.hid rfl) hp hl
theorem sFractionOfContinued_nil (g : Nat) (w : World) :
    Calls Try.prog 21 #[.slice (some ⟨g, 0, none⟩) 0 0] w fun e w' => e = .returned (.tuple #[.agg #[.int .i64 0, .int .i64 0], .int .i64 2]) ∧ Below w.heap.size w w' := by
  go_enter Try.func21, Try.ntmps21
  go_wp2
  exact bodyPost_ret (v := .tuple #[.agg #[.int .i64 0, .int .i64 0], .int .i64 2]) (by simp only [results, Try.results21]; go_simp) rfl ⟨rfl, (by repeat' (first | (with_reducible exact Below.refl _ _) | (with_reducible assumption) | (with_reducible refine below_drewN ?_ _) | (with_reducible refine Below.drew ?_) | (with_reducible refine Below.alloc ?_ ?_ _) | (with_reducible refine Below.setCell ?_ ?_ _) | (with_reducible refine Below.trans ?_ (Below.mono (by with_reducible assumption) ?_)) | go_size | (dsimp only; omega)))⟩
theorem sFractionOfContinued_c (v : Value) (ys : List Int) (w : World) (h : ∃ g, v = .slice (some ⟨g, 0, none⟩) ys.length ys.length) (hi : InI w v ys) (hl : ys.length ≤ 1000000000) :
    Calls Try.prog 21 #[v] w fun e w' => e = .returned (contV ys) ∧ Below w.heap.size w w' := by
  obtain ⟨g, rfl⟩ := h
  by_cases h0 : ys = []
  · subst h0
    rw [contV_no (fun h => by have := h.1; simp at this)]
    exact sFractionOfContinued_nil g w
  · have hp := List.length_pos_iff.mpr h0
    rcases hi with ⟨h, _⟩ | ⟨b, o, c, hv, hb, hr⟩
    · exact absurd h h0
    · injection hv with e1 e2 e3
      injection e1 with e1
      injection e1 with e1 e4
      subst e1 e4
      exact sFractionOfContinued_row _ ys.length ys w hb (Lib.hid hr) (Lib.hid rfl) hp hl
set_option maxHeartbeats 4000000 in
theorem FractionOfContinued_lawL (a : Value) (ys : List Int) (len cap : Nat) (aa : Option Addr) (ha : a = .slice aa len cap) (W : World) (hi : InI W a ys) (hly : ys.length = len) (hl : len ≤ 1048576) :
    Calls Try.prog 4 #[a] W fun e w' => e = .returned (.bool true) ∧ Below W.heap.size W w' := by
  have hn : ¬ (1048576 < (len : Int)) := by omega
  obtain ⟨x0, x1, x4, hx⟩ := contV_form ys
  have HX := Lib.hid hx
  have HI := Lib.hid hi
  have HL := Lib.hid hly
  subst ha
  clear hx hi hly
  go_enter Try.func4, Try.ntmps4
  go_wp2_with fail
  refine (toInt64S_full _ ys _ HI.out (by rw [HL.out]; exact hl)).mono ?_
  rintro e w1 ⟨v1, rfl, ho1, hs1, b1⟩
  have HO1 := Lib.hid ho1
  clear ho1
  go_wp2_with fail
  refine (sFractionOfContinued_c v1 ys _ hs1 HO1.out.inI (by rw [HL.out]; omega)).mono ?_
  rintro e wa ⟨rfl, ba⟩
  rw [HX.out]
  have z1 := b1.size
  have za := ba.size
  have BWa : Below W.heap.size W wa := Below.trans b1 (Below.mono ba z1)
  go_wp2_with fail
  have hIa : InI (wa.alloc (Obj.cells #[.int .i64 x0, .int .i64 x1] 32)) (.slice aa len cap) ys := HI.out.below (C := W.heap.size) (Below.alloc BWa (by omega) _) (Nat.le_refl _)
  have HIa := Lib.hid hIa
  clear hIa
  refine (toInt64S_full _ ys _ HIa.out (by rw [HL.out]; exact hl)).mono ?_
  rintro e w2 ⟨v2, rfl, ho2, hs2, b2⟩
  have HO2 := Lib.hid ho2
  clear ho2
  have zzb2 := b2.size; (try simp at zzb2); have zb2_0 : wa.heap.size < w2.heap.size := (by omega); have kcb2_0 : ∀ o, w2.cell? ⟨wa.heap.size, o, none⟩ = _ := fun o => b2.cell (p := ⟨wa.heap.size, o, none⟩) (by go_size); have kfb2_0 : ∀ o, w2.frozen? ⟨wa.heap.size, o, none⟩ = _ := fun o => b2.frozen (p := ⟨wa.heap.size, o, none⟩) (by go_size); clear zzb2
  have z2 := b2.size
  simp only [World.size_alloc] at z2
  go_wp2_with fail
  refine (FractionOfContinued_c v2 ys _ hs2 HO2.out.inI (by rw [HL.out]; omega)).mono ?_
  rintro e wb ⟨rfl, bb⟩
  rw [HX.out]
  have zzbb := bb.size; (try simp at zzbb); have zbb_0 : wa.heap.size < wb.heap.size := (by omega); have kcbb_0 : ∀ o, wb.cell? ⟨wa.heap.size, o, none⟩ = _ := fun o => bb.cell (p := ⟨wa.heap.size, o, none⟩) (by go_size); have kfbb_0 : ∀ o, wb.frozen? ⟨wa.heap.size, o, none⟩ = _ := fun o => bb.frozen (p := ⟨wa.heap.size, o, none⟩) (by go_size); clear zzbb
  have zb := bb.size
  go_wp2_with fail
  refine (eqFraction_same _ _ _).mono ?_
  rintro e w5 ⟨rfl, b5⟩
  have z5 := b5.size
  simp only [World.size_alloc] at z5
  have B2b : Below w2.heap.size w2 w5 := Below.trans (Below.alloc bb zb _) (Below.mono b5 (by simp; omega))
  have BW5 : Below W.heap.size W w5 := Below.trans (Below.trans (Below.alloc BWa (by omega) _) (Below.mono b2 (by simp; omega))) (Below.mono B2b (by omega))
  have HI5 := Lib.hid (HI.out.below (C := W.heap.size) BW5 (Nat.le_refl _))
  have HO5 := Lib.hid (HO2.out.below B2b (Nat.le_refl _))
  go_wp2_with fail
  refine (toInt64S_full _ ys _ HI5.out (by rw [HL.out]; exact hl)).mono ?_
  rintro e w6 ⟨v3, rfl, ho6, hs6, b6⟩
  have HO6 := Lib.hid ho6
  have HO56 := Lib.hid (HO5.out.below b6 (Nat.le_refl _))
  have z6 := b6.size
  clear ho6
  go_wp2_with fail
  refine (eqI_c _ _ _ _ ys _ (by rw [HL.out]; omega) HO56.out HO6.out).mono ?_
  rintro e w7 ⟨rfl, m, hw7⟩
  have B7 : Below W.heap.size W w7 := by subst hw7; exact below_drewN (Below.trans BW5 (Below.mono b6 (by omega))) _
  clear hw7
  go_wp2
  go_returns
  exact ⟨rfl, B7⟩
theorem FnExactFractionOfContinued_w (a : Option Addr) (len cap : Nat) (zs : List Int) (W : World) (hr : IsRow .i64 W a len cap zs) (hl : len * 8 ≤ 140737488351232) :
    Calls Try.prog 4 #[.slice a len cap] W fun e w' => e = .returned (.bool true) ∧ Below W.heap.size W w' := by
  obtain ⟨hi, hlen⟩ := inI_isRow2 hr
  by_cases hb : len ≤ 1048576
  · exact FractionOfContinued_lawL _ _ len cap a rfl W hi hlen hb
  · have hn : 1048576 < (len : Int) := by omega
    clear hr hi hlen
    go_enter Try.func4, Try.ntmps4
    go_wp2
    go_returns
    exact ⟨rfl, Below.refl _ _⟩
end Go.Proofs.Ytmopjfjmmdnapaa
