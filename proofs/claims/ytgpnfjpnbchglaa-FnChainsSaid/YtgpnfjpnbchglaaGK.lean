/- FnChains: the walk of the law. -/
import Derived.Test.YtgpnfjpnbchglaaGC
import Derived.Test.YtgpnfjpnbchglaaGI
import Derived.Test.YtgpnfjpnbchglaaHC
import Derived.Test.YtgpnfjpnbchglaaAS
import Derived.Test.YtgpnfjpnbchglaaAG
import Derived.Test.YtgpnfjpnbchglaaR
import Derived.Test.YtgpnfjpnbchglaaGJ
namespace Go.Proofs.Ytgpnfjpnbchglaa
open Go.RowKit
open Plain (flo Chain chain_exists)
set_option linter.unusedVariables false
set_option linter.unusedSimpArgs false
attribute [local go_sem] run_equalIn_M

/-- what ChainOf answers, of the program and of the reference -/
theorem chainOf_both (p q r t : Int) : ∃ (sg c : Int) (zs : List Int), Hid (∀ w, Calls Try.prog 7 #[.agg #[.int .i64 p, .int .i64 q, .int .i64 r, .int .i64 t]] w fun e w' => ∃ v, e = .returned (.tuple #[.int .i64 sg, v, .int .i64 c]) ∧ OwnI w.heap.size w' v zs ∧ Below w.heap.size w w') ∧ Hid (∀ w, Calls Try.prog 8 #[.agg #[.int .i64 p, .int .i64 q, .int .i64 r, .int .i64 t]] w fun e w' => ∃ v, e = .returned (.tuple #[.int .i64 sg, v, .int .i64 c]) ∧ OwnI w.heap.size w' v zs ∧ Below w.heap.size w w') ∧ zs.length ≤ 1000000001 ∧ (c = 0 → isM p q r t = true ∧ Chain p q r t sg zs) ∧ (c ≠ 0 → zs = []) := by
  cases h : isM p q r t
  · exact ⟨0, 1, [], Lib.hid (fun w => ChainOf_no p q r t w h), Lib.hid (fun w => sChainOf_no p q r t w h), by simp, by omega, fun _ => rfl⟩
  · obtain ⟨-, -, ⟨c0, c1⟩, -, -⟩ := isM_iff.mp h
    obtain ⟨sg, zs, hc, hl⟩ := chain_exists r.natAbs p q r t (Nat.le_refl _)
    have hl' : zs.length ≤ 1000000001 := by omega
    exact ⟨sg, 0, zs, Lib.hid (fun w => ChainOf_yes p q r t sg zs w h hc hl'), Lib.hid (fun w => sChainOf_yes p q r t sg zs w h hc hl'), hl', fun _ => ⟨rfl, hc⟩, fun h => absurd rfl h⟩
theorem ext_split (s : ByteArray) (k : Nat) (h : k ≤ s.size) : s.data.toList = (s.extract 0 k).data.toList ++ (s.extract k s.size).data.toList := by
  have e : s.size = s.data.toList.length := by rw [Array.length_toList]; rfl
  simp only [ByteArray.data_extract, Array.toList_extract, List.extract_eq_take_drop, List.drop_zero, Nat.sub_zero]
  rw [e, List.take_of_length_le (l := s.data.toList.drop k) (by rw [List.length_drop]; exact Nat.le_refl _)]
  rw [List.take_append_drop]
set_option maxRecDepth 100000 in
set_option maxHeartbeats 8000000 in
theorem FnChains_w (a : Option Addr) (len cap : Nat) (zs0 : List Int) (W : World) (hr : IsRow .u8 W a len cap zs0) (hl : len * 1 ≤ 140737488351232) :
    Calls Try.prog 3 #[.slice a len cap] W fun e w' => e = .returned (.bool true) ∧ Below W.heap.size W w' := by
  have hv := codeV_isRow hr hl
  clear hr
  go_enter Try.func3, Try.ntmps3
  go_wp2_with fail
  refine (big_c a len cap W (by omega)).mono ?_
  rintro e w0 ⟨rfl, rfl⟩
  by_cases hb : 4096 < len
  · have hb' : decide (4096 < len) = true := decide_eq_true hb
    rw [hb']
    clear hb'
    go_wp2
    go_returns
    exact ⟨rfl, Below.refl _ _⟩
  have hb' : decide (4096 < len) = false := decide_eq_false hb
  rw [hb']
  clear hb' hb hl
  go_wp2_with fail
  refine (drawChainOf_c _ W hv).mono ?_
  rintro e w1 ⟨⟨p, q, r, t, rfl⟩, b1⟩
  obtain ⟨sg, c1, zs, K1, K2, hzl, hc0, hc1⟩ := chainOf_both p q r t
  have HC0 := Lib.hid hc0
  have HC1 := Lib.hid hc1
  clear hc0 hc1
  go_wp2_with fail
  generalize hw2 : World.alloc _ _ = w2
  obtain ⟨bm, hbm⟩ : ∃ bm, w1.heap.size = bm := ⟨_, rfl⟩
  have hm2 : M4At w2 bm ⟨p, q, r, t⟩ := by subst hw2 hbm; exact m4At_alloc w1 p q r t _
  have hz2 : bm < w2.heap.size := by subst hw2 hbm; simp
  have hz1 : W.heap.size ≤ bm := by have := b1.size; omega
  have b2 : Below W.heap.size W w2 := by subst hw2; exact (by repeat' (first | (with_reducible exact Below.refl _ _) | (with_reducible assumption) | (with_reducible refine below_drewN ?_ _) | (with_reducible refine Below.drew ?_) | (with_reducible refine Below.alloc ?_ ?_ _) | (with_reducible refine Below.setCell ?_ ?_ _) | (with_reducible refine Below.trans ?_ (Below.mono (by with_reducible assumption) ?_)) | go_size | (dsimp only; omega)))
  rw [hbm]
  clear hw2 hbm b1
  refine (K1.out _).mono ?_
  rintro e w3 ⟨v1, rfl, ho3, b3⟩
  have hm3 := hm2.below b3 hz2
  have hz3 := b3.size
  have hb3 : Below W.heap.size W w3 := b2.trans (b3.mono (by omega))
  clear b2 b3 hm2
  obtain ⟨g0, g1, g2, g3, g4, g5⟩ := id hm3
  simp only [] at g0 g1 g2 g3
  go_wp2_with fail
  refine (K2.out _).mono ?_
  rintro e w4 ⟨v2, rfl, ho4, b4⟩
  have hm4 := hm3.below b4 (by omega)
  have ho34 := ho3.below b4 (Nat.le_refl _)
  have hz4 := b4.size
  have hb4 : Below W.heap.size W w4 := hb3.trans (b4.mono (by omega))
  clear hb3 b4 hm3 ho3 g0 g1 g2 g3 g4 g5
  go_wp2_with fail
  refine (likeI_c v1 v2 _ _ zs w4 (by omega) ho34 ho4).mono ?_
  rintro e w5 ⟨rfl, m5, hw5⟩
  have b5 : Below w4.heap.size w4 w5 := by rw [hw5]; exact below_drewN (Below.refl _ _) _
  have hm5 := hm4.below b5 (by omega)
  have ho5 := ho34.below b5 (Nat.le_refl _)
  have hz5 := b5.size
  have hb5 : Below W.heap.size W w5 := hb4.trans (b5.mono (by omega))
  clear hb4 b5 hm4 ho34 ho4 hw5
  go_wp2_with fail
  refine (drawMatrixOfChain_c _ w5 (hv.below hb5)).mono ?_
  rintro e w6 ⟨sg2, l2, zs2, rfl, hwf2, ho6, hzl2, b6⟩
  have hm6 := hm5.below b6 (by omega)
  have hv6 := ho5.below b6 (Nat.le_refl _)
  have hz6 := b6.size
  have hb6 : Below W.heap.size W w6 := hb5.trans (b6.mono (by omega))
  clear hb5 b6 hm5 ho5
  obtain ⟨x0, x1, x2, x3, x4, hcv⟩ := chainV_form sg2 zs2
  have HCV := Lib.hid hcv
  clear hcv
  go_wp2_with fail
  refine (MatrixOfChain_c sg2 hwf2 l2 zs2 w6 ho6.inI (by omega)).mono ?_
  rintro e w7 ⟨rfl, b7⟩
  rw [HCV.out]
  have hm7 := hm6.below b7 (by omega)
  have hv7 := hv6.below b7 (Nat.le_refl _)
  have ho7 := ho6.below b7 (Nat.le_refl _)
  have hz7 := b7.size
  have hb7 : Below W.heap.size W w7 := hb6.trans (b7.mono (by omega))
  clear hb6 b7 hm6 hv6 ho6
  go_wp2_with fail
  generalize hw8 : World.alloc _ _ = w8
  obtain ⟨b8, hb8⟩ : ∃ b8, w7.heap.size = b8 := ⟨_, rfl⟩
  have hx8 : M4At w8 b8 ⟨x0, x1, x2, x3⟩ := by subst hw8 hb8; exact m4At_alloc w7 x0 x1 x2 x3 _
  have bb8 : Below b8 w7 w8 := by subst hw8 hb8; exact (by repeat' (first | (with_reducible exact Below.refl _ _) | (with_reducible assumption) | (with_reducible refine below_drewN ?_ _) | (with_reducible refine Below.drew ?_) | (with_reducible refine Below.alloc ?_ ?_ _) | (with_reducible refine Below.setCell ?_ ?_ _) | (with_reducible refine Below.trans ?_ (Below.mono (by with_reducible assumption) ?_)) | go_size | (dsimp only; omega)))
  have hz8 : b8 < w8.heap.size := by subst hw8 hb8; simp
  have hm8 := hm7.below bb8 (by omega)
  have hv8 := hv7.below bb8 (by omega)
  have ho8 := ho7.below bb8 (by omega)
  have hbw8 : Below W.heap.size W w8 := hb7.trans (bb8.mono (by omega))
  clear hb7 hw8 hm7 hv7 ho7
  rw [hb8]
  have hq8 : w7.heap.size ≤ b8 := by omega
  clear hb8 bb8
  refine (sMatrixOfChain_c sg2 hwf2 l2 zs2 w8 ho8.inI (by omega)).mono ?_
  rintro e w9 ⟨rfl, b9⟩
  rw [HCV.out]
  have hm9 := hm8.below b9 (by omega)
  have hv9 := hv8.below b9 (Nat.le_refl _)
  have hx9 := hx8.below b9 (by omega)
  have hz9 := b9.size
  have hb9 : Below W.heap.size W w9 := hbw8.trans (b9.mono (by omega))
  clear hbw8 b9 hm8 hv8 ho8 hx8
  obtain ⟨y0, y1, y2, y3, y4, y5⟩ := hx9
  simp only [] at y0 y1 y2 y3
  go_wp2_with fail
  generalize hw10 : World.alloc _ _ = w10
  have bb10 : Below w9.heap.size w9 w10 := by subst hw10; exact (by repeat' (first | (with_reducible exact Below.refl _ _) | (with_reducible assumption) | (with_reducible refine below_drewN ?_ _) | (with_reducible refine Below.drew ?_) | (with_reducible refine Below.alloc ?_ ?_ _) | (with_reducible refine Below.setCell ?_ ?_ _) | (with_reducible refine Below.trans ?_ (Below.mono (by with_reducible assumption) ?_)) | go_size | (dsimp only; omega)))
  have hm10 := hm9.below bb10 (by omega)
  have hv10 := hv9.below bb10 (Nat.le_refl _)
  have hz10 := bb10.size
  have hb10 : Below W.heap.size W w10 := hb9.trans (bb10.mono (by omega))
  clear hb9 hm9 hv9 y0 y1 y2 y3 y4 y5 bb10 hw10
  refine (drawMatrixOfWord_c _ w10 (hv.below hb10)).mono ?_
  rintro e w11 ⟨str, rfl, hstr, b11⟩
  have hm11 := hm10.below b11 (by omega)
  have hv11 := hv10.below b11 (Nat.le_refl _)
  have hz11 := b11.size
  have hb11 : Below W.heap.size W w11 := hb10.trans (b11.mono (by omega))
  clear hb10 b11 hm10 hv10
  obtain ⟨p0, p1, p2, p3, p4, hwv⟩ := wordV_form str
  have HWV := Lib.hid hwv
  clear hwv
  go_wp2_with fail
  refine (MatrixOfWord_c str w11 (by omega)).mono ?_
  rintro e w12 ⟨rfl, b12⟩
  rw [HWV.out]
  have hm12 := hm11.below b12 (by omega)
  have hv12 := hv11.below b12 (Nat.le_refl _)
  have hz12 := b12.size
  have hb12 : Below W.heap.size W w12 := hb11.trans (b12.mono (by omega))
  clear hb11 b12 hm11 hv11
  go_wp2_with fail
  generalize hw13 : World.alloc _ _ = w13
  obtain ⟨bp, hbp⟩ : ∃ bp, w12.heap.size = bp := ⟨_, rfl⟩
  have hp13 : M4At w13 bp ⟨p0, p1, p2, p3⟩ := by subst hw13 hbp; exact m4At_alloc w12 p0 p1 p2 p3 _
  have bb13 : Below bp w12 w13 := by subst hw13 hbp; exact (by repeat' (first | (with_reducible exact Below.refl _ _) | (with_reducible assumption) | (with_reducible refine below_drewN ?_ _) | (with_reducible refine Below.drew ?_) | (with_reducible refine Below.alloc ?_ ?_ _) | (with_reducible refine Below.setCell ?_ ?_ _) | (with_reducible refine Below.trans ?_ (Below.mono (by with_reducible assumption) ?_)) | go_size | (dsimp only; omega)))
  have hz13 : bp < w13.heap.size := by subst hw13 hbp; simp
  have hm13 := hm12.below bb13 (by omega)
  have hv13 := hv12.below bb13 (by omega)
  have hb13 : Below W.heap.size W w13 := hb12.trans (bb13.mono (by omega))
  clear hb12 hw13 hm12 hv12
  rw [hbp]
  have hq13 : w12.heap.size ≤ bp := by omega
  clear hbp bb13
  refine (sMatrixOfWord_c str w13 (by omega)).mono ?_
  rintro e w14 ⟨rfl, b14⟩
  rw [HWV.out]
  have hm14 := hm13.below b14 (by omega)
  have hv14 := hv13.below b14 (Nat.le_refl _)
  have hp14 := hp13.below b14 (by omega)
  have hz14 := b14.size
  have hb14 : Below W.heap.size W w14 := hb13.trans (b14.mono (by omega))
  clear hb13 b14 hm13 hv13 hp13
  obtain ⟨y0, y1, y2, y3, y4, y5⟩ := id hp14
  simp only [] at y0 y1 y2 y3
  have hn13 : ¬ p4 = 0 ∨ p4 = 0 := by omega
  by_cases hcond : p4 = 0 ∧ 1 < str.size
  · obtain ⟨hp40, hs1⟩ := hcond
    have hs1' : ((1 : Int) < (str.size : Int)) := by omega
    subst hp40
    obtain ⟨X, hX1, hXM, hX2⟩ := word_half (m := ⟨p0, p1, p2, p3⟩) (s1 := str.extract 0 (str.size / 2)) (s2 := str.extract (str.size / 2) str.size) HWV.out (ext_split str _ (by omega)) (by rw [ByteArray.size_extract, ByteArray.size_extract]; omega)
    have HX1 := Lib.hid hX1
    have HX2 := Lib.hid hX2
    have hsz1 : (str.extract 0 (str.size / 2)).size ≤ 1000 := by rw [ByteArray.size_extract]; omega
    have hsz2 : (str.extract (str.size / 2) str.size).size ≤ 1000 := by rw [ByteArray.size_extract]; omega
    clear hX1 hX2 hn13
    go_wp2_with fail
    generalize hw15 : World.alloc _ _ = w15
    have bb15 : Below w14.heap.size w14 w15 := by subst hw15; exact (by repeat' (first | (with_reducible exact Below.refl _ _) | (with_reducible assumption) | (with_reducible refine below_drewN ?_ _) | (with_reducible refine Below.drew ?_) | (with_reducible refine Below.alloc ?_ ?_ _) | (with_reducible refine Below.setCell ?_ ?_ _) | (with_reducible refine Below.trans ?_ (Below.mono (by with_reducible assumption) ?_)) | go_size | (dsimp only; omega)))
    have hm15 := hm14.below bb15 (by omega)
    have hv15 := hv14.below bb15 (Nat.le_refl _)
    have hp15 := hp14.below bb15 (by omega)
    have hz15 := bb15.size
    have hb15 : Below W.heap.size W w15 := hb14.trans (bb15.mono (by omega))
    clear hw15 bb15 hm14 hv14 hp14 hb14 y0 y1 y2 y3 y4 y5
    refine (MatrixOfWord_c _ w15 (by omega)).mono ?_
    rintro e w16 ⟨rfl, b16⟩
    rw [HX1.out]
    simp only [M4.v]
    have hm16 := hm15.below b16 (by omega)
    have hv16 := hv15.below b16 (Nat.le_refl _)
    have hp16 := hp15.below b16 (by omega)
    have hz16 := b16.size
    have hb16 : Below W.heap.size W w16 := hb15.trans (b16.mono (by omega))
    clear b16 hm15 hv15 hp15 hb15
    obtain ⟨q0, q1, q2, q3, q4, hwq⟩ := wordV_form (str.extract (str.size / 2) str.size)
    have HWQ := Lib.hid hwq
    clear hwq
    go_wp2_with fail
    generalize hw17 : World.alloc _ _ = w17
    obtain ⟨bl, hbl⟩ : ∃ bl, w16.heap.size = bl := ⟨_, rfl⟩
    have hl17 : M4At w17 bl X := by subst hw17 hbl; exact m4At_alloc w16 X.a X.b X.c X.d _
    have bb17 : Below bl w16 w17 := by subst hw17 hbl; exact (by repeat' (first | (with_reducible exact Below.refl _ _) | (with_reducible assumption) | (with_reducible refine below_drewN ?_ _) | (with_reducible refine Below.drew ?_) | (with_reducible refine Below.alloc ?_ ?_ _) | (with_reducible refine Below.setCell ?_ ?_ _) | (with_reducible refine Below.trans ?_ (Below.mono (by with_reducible assumption) ?_)) | go_size | (dsimp only; omega)))
    have hz17 : bl < w17.heap.size := by subst hw17 hbl; simp
    have hm17 := hm16.below bb17 (by omega)
    have hv17 := hv16.below bb17 (by omega)
    have hp17 := hp16.below bb17 (by omega)
    have hb17 : Below W.heap.size W w17 := hb16.trans (bb17.mono (by omega))
    rw [hbl]
    have hq17 : w16.heap.size ≤ bl := by omega
    clear hw17 hbl bb17 hm16 hv16 hp16 hb16
    refine (MatrixOfWord_c _ w17 (by omega)).mono ?_
    rintro e w18 ⟨rfl, b18⟩
    rw [HWQ.out]
    have hm18 := hm17.below b18 (by omega)
    have hv18 := hv17.below b18 (Nat.le_refl _)
    have hp18 := hp17.below b18 (by omega)
    have hl18 := hl17.below b18 (by omega)
    have hz18 := b18.size
    have hb18 : Below W.heap.size W w18 := hb17.trans (b18.mono (by omega))
    clear b18 hm17 hv17 hp17 hb17 hl17
    have bb19 : Below w18.heap.size w18 (w18.alloc (Obj.cells #[.int .i64 q0, .int .i64 q1, .int .i64 q2, .int .i64 q3] 25)) := (by repeat' (first | (with_reducible exact Below.refl _ _) | (with_reducible assumption) | (with_reducible refine below_drewN ?_ _) | (with_reducible refine Below.drew ?_) | (with_reducible refine Below.alloc ?_ ?_ _) | (with_reducible refine Below.setCell ?_ ?_ _) | (with_reducible refine Below.trans ?_ (Below.mono (by with_reducible assumption) ?_)) | go_size | (dsimp only; omega)))
    by_cases hq4 : q4 = 0
    · subst hq4
      obtain ⟨hYM, hXY⟩ := HX2.out ⟨q0, q1, q2, q3⟩ HWQ.out
      have HXY := Lib.hid hXY
      clear hXY
      have hl19 := hl18.below bb19 (by omega)
      have hp19 := hp18.below bb19 (by omega)
      have hm19 := hm18.below bb19 (by omega)
      have hv19 := hv18.below bb19 (Nat.le_refl _)
      have hb19 : Below W.heap.size W _ := hb18.trans (bb19.mono (by omega))
      have hz19 := bb19.size
      clear bb19
      generalize hw19 : World.alloc _ _ = w19 at hl19 hp19 hm19 hv19 hb19 hz19
      have hr19 : M4At w19 w18.heap.size ⟨q0, q1, q2, q3⟩ := by subst hw19; exact m4At_alloc w18 q0 q1 q2 q3 _
      obtain ⟨l0, l1, l2', l3, l4, l5⟩ := hl19
      obtain ⟨r0, r1, r2, r3, r4, r5⟩ := id hr19
      simp only [] at r0 r1 r2 r3
      subst hw19
      go_wp2_with fail
      refine (ProductOf_yes X.a X.b X.c X.d q0 q1 q2 q3 _ (by rw [Bool.and_eq_true]; exact ⟨hXM, hYM⟩)).mono ?_
      rintro e w20 ⟨rfl, b20⟩
      have hpr : prodV (prodL M4.I [⟨X.a, X.b, X.c, X.d⟩, ⟨q0, q1, q2, q3⟩]) = .tuple #[.agg #[.int .i64 p0, .int .i64 p1, .int .i64 p2, .int .i64 p3], .int .i64 0] := by
        have := HXY.out
        rw [show (⟨X.a, X.b, X.c, X.d⟩ : M4) = X from rfl, this]; rfl
      have HPR := Lib.hid hpr
      clear hpr
      rw [HPR.out]
      have hp20 := hp19.below b20 (by omega)
      have hm20 := hm19.below b20 (by omega)
      have hv20 := hv19.below b20 (Nat.le_refl _)
      have hz20 := b20.size
      have hb20 : Below W.heap.size W w20 := hb19.trans (b20.mono (by omega))
      clear b20 hm19 hv19 hp19 hb19 l0 l1 l2' l3 l4 l5 r0 r1 r2 r3 r4 r5 hr19 hl18 hp18 hm18 hv18 hb18
      obtain ⟨y0, y1, y2, y3, y4, y5⟩ := hp20
      simp only [] at y0 y1 y2 y3
      go_upto_region 28 with fail
      generalize hwT : World.alloc _ _ = wT
      have bbT : Below w20.heap.size w20 wT := by subst hwT; exact (by repeat' (first | (with_reducible exact Below.refl _ _) | (with_reducible assumption) | (with_reducible refine below_drewN ?_ _) | (with_reducible refine Below.drew ?_) | (with_reducible refine Below.alloc ?_ ?_ _) | (with_reducible refine Below.setCell ?_ ?_ _) | (with_reducible refine Below.trans ?_ (Below.mono (by with_reducible assumption) ?_)) | go_size | (dsimp only; omega)))
      have hmT := hm20.below bbT (by omega)
      have hvT := hv20.below bbT (Nat.le_refl _)
      have hzT := bbT.size
      have hbT : Below W.heap.size W wT := hb20.trans (bbT.mono (by omega))
      clear hwT bbT hm20 hv20 hb20
      by_cases hc1 : c1 = 0
      · obtain ⟨hM, hCh⟩ := HC0.out hc1
        subst hc1
        obtain ⟨-, -, -, -, hdet⟩ := isM_iff.mp hM
        have hne := (chain_exact hCh hdet).2.1
        have hIN := Lib.hid (chain_inner hCh)
        have hBK := Lib.hid (chain_back hCh hM)
        have hsg := (chain_exact hCh hdet).1
        have hwfs : (Lit.int .i64 sg).wf = true := by rcases hsg with rfl | rfl <;> decide
        have hinV := (hvT).inI
        rcases hvT with ⟨e0, -⟩ | ⟨g, c, rfl, -, hg2, hrow, -⟩
        · exact absurd e0 hne
        obtain ⟨n, hn⟩ : ∃ n, zs.length = n := ⟨_, rfl⟩
        have hn1 : 1 ≤ n := by have := List.length_pos_iff.mpr hne; omega
        have hnb : n ≤ 100 := by have := (chain_OkC hCh hM).2.2.1; omega
        have HL := Lib.hid hn
        have HR : Hid (∀ k, k < n → wT.cell? ⟨g, k, none⟩ = some (.int .i64 (zs.getD k 0))) := Lib.hid (fun k hk => by have := hrow k (by omega); simpa using this)
        rw [hn] at hinV ⊢
        clear hn hrow hsg hne hzl HC0 HC1 hdet
        go_wp2
        go_loopw [28] (fun vi wr => ∃ k : Nat, vi = .int .i64 k ∧ 1 ≤ k ∧ k ≤ n + 1 ∧ Below wT.heap.size wT wr) (fun vi wr => n + 1 - (intOf vi).toNat)
        case atStart => exact ⟨1, rfl, by omega, by omega, Below.refl _ _⟩
        case round =>
          obtain ⟨k, rfl, hk1, hk2, hbr⟩ := hrel
          by_cases hlt : k + 1 < n
          · have hlt' : ((k : Int) + 1 < (n : Int)) := by omega
            have q1 : wr.cell? ⟨g, k, none⟩ = some (.int .i64 (zs.getD k 0)) := by rw [hbr.cell (p := ⟨g, k, none⟩) hg2]; exact HR.out k (by omega)
            have hin := hIN.out k hk1 (by rw [HL.out]; exact hlt)
            have hkn : k < n := by omega
            generalize zs.getD k 0 = z at *
            rcases hin with hin | hin
            · have d1 : decide (-2 < z) = false := decide_eq_false (by omega)
              have d1' : ¬ (-2 < z) := by omega
              go_wp2
              go_roundw
              case rel => exact ⟨k + 1, by go_num, by omega, by omega, hbr⟩
              case measure => simp [intOf]; omega
            · have d1 : decide (-2 < z) = true := decide_eq_true (by omega)
              have d2 : decide (z < 2) = false := decide_eq_false (by omega)
              have d1' : -2 < z := by omega
              have d2' : ¬ (z < 2) := by omega
              go_wp2
              go_roundw
              case rel => exact ⟨k + 1, by go_num, by omega, by omega, hbr⟩
              case measure => simp [intOf]; omega
          · have hlt' : ¬ ((k : Int) + 1 < (n : Int)) := by omega
            have hmr := (hmT).below hbr (by omega)
            have hbW : Below W.heap.size W wr := (hbT).trans (hbr.mono (by omega))
            have hinr : InI wr (.slice (some ⟨g, 0, none⟩) n c) zs := by
              rcases hinV with ⟨e0, -⟩ | ⟨b', o', c', e1, e2, e3⟩
              · exfalso; have := HL.out; rw [e0] at this; simp at this; omega
              · refine .inr ⟨b', o', c', e1, Nat.lt_of_lt_of_le e2 hbr.size, fun k hk => ?_⟩
                rw [hbr.cell (p := ⟨b', o' + k, none⟩) e2]; exact e3 k hk
            clear hinV
            obtain ⟨y0, y1, y2, y3, y4, y5⟩ := id hmr
            simp only [] at y0 y1 y2 y3
            go_wp2_with fail
            refine (MatrixOfChain_c sg hwfs _ zs wr hinr (by rw [HL.out]; omega)).mono ?_
            rintro e w20 ⟨rfl, b20⟩
            have hm20 := hmr.below b20 (by omega)
            have hb20 : Below W.heap.size W w20 := hbW.trans (b20.mono (by have := hbW.size; omega))
            obtain ⟨v0, v1', v2', v3, v4, v5⟩ := hm20
            simp only [] at v0 v1' v2' v3
            clear y0 y1 y2 y3 y4 y5 hmr hbr b20 hinr hbW
            rcases hBK.out with hbk | ⟨hbk, hni⟩
            · have HB2 := Lib.hid hbk
              clear hbk
              rw [HB2.out]
              go_wp2
              go_returns
              exact ⟨rfl, (by repeat' (first | (with_reducible exact Below.refl _ _) | (with_reducible assumption) | (with_reducible refine below_drewN ?_ _) | (with_reducible refine Below.drew ?_) | (with_reducible refine Below.alloc ?_ ?_ _) | (with_reducible refine Below.setCell ?_ ?_ _) | (with_reducible refine Below.trans ?_ (Below.mono (by with_reducible assumption) ?_)) | go_size | (dsimp only; omega)))⟩
            · have HB2 := Lib.hid hbk
              clear hbk
              rw [HB2.out]
              have hni' : (p == 1 && (q == 0 && (r == 0 && t == 1))) = false := by
                rw [Bool.eq_false_iff]; intro h; simp at h; exact hni ⟨h.1, h.2.1, h.2.2.1, h.2.2.2⟩
              clear hni
              go_wp2
              go_returns
              exact ⟨rfl, (by repeat' (first | (with_reducible exact Below.refl _ _) | (with_reducible assumption) | (with_reducible refine below_drewN ?_ _) | (with_reducible refine Below.drew ?_) | (with_reducible refine Below.alloc ?_ ?_ _) | (with_reducible refine Below.setCell ?_ ?_ _) | (with_reducible refine Below.trans ?_ (Below.mono (by with_reducible assumption) ?_)) | go_size | (dsimp only; omega)))⟩
      · have hz0 := HC1.out hc1
        subst hz0
        have hc1' : (c1 == 0) = false := by simpa using hc1
        rcases hvT with ⟨-, p', c', rfl⟩ | ⟨g, c, rfl, -, -, -, -⟩
        · go_wp2
          go_returns
          exact ⟨rfl, (by repeat' (first | (with_reducible exact Below.refl _ _) | (with_reducible assumption) | (with_reducible refine below_drewN ?_ _) | (with_reducible refine Below.drew ?_) | (with_reducible refine Below.alloc ?_ ?_ _) | (with_reducible refine Below.setCell ?_ ?_ _) | (with_reducible refine Below.trans ?_ (Below.mono (by with_reducible assumption) ?_)) | go_size | (dsimp only; omega)))⟩
        · go_wp2
          go_returns
          exact ⟨rfl, (by repeat' (first | (with_reducible exact Below.refl _ _) | (with_reducible assumption) | (with_reducible refine below_drewN ?_ _) | (with_reducible refine Below.drew ?_) | (with_reducible refine Below.alloc ?_ ?_ _) | (with_reducible refine Below.setCell ?_ ?_ _) | (with_reducible refine Below.trans ?_ (Below.mono (by with_reducible assumption) ?_)) | go_size | (dsimp only; omega)))⟩
    · have hq4' : (q4 == 0) = false := by simpa using hq4
      clear bb19
      go_upto_region 28 with fail
      generalize hwT : World.alloc _ _ = wT
      have bbT : Below w18.heap.size w18 wT := by subst hwT; exact (by repeat' (first | (with_reducible exact Below.refl _ _) | (with_reducible assumption) | (with_reducible refine below_drewN ?_ _) | (with_reducible refine Below.drew ?_) | (with_reducible refine Below.alloc ?_ ?_ _) | (with_reducible refine Below.setCell ?_ ?_ _) | (with_reducible refine Below.trans ?_ (Below.mono (by with_reducible assumption) ?_)) | go_size | (dsimp only; omega)))
      have hmT := hm18.below bbT (by omega)
      have hvT := hv18.below bbT (Nat.le_refl _)
      have hzT := bbT.size
      have hbT : Below W.heap.size W wT := hb18.trans (bbT.mono (by omega))
      clear hwT bbT hm18 hv18 hb18
      by_cases hc1 : c1 = 0
      · obtain ⟨hM, hCh⟩ := HC0.out hc1
        subst hc1
        obtain ⟨-, -, -, -, hdet⟩ := isM_iff.mp hM
        have hne := (chain_exact hCh hdet).2.1
        have hIN := Lib.hid (chain_inner hCh)
        have hBK := Lib.hid (chain_back hCh hM)
        have hsg := (chain_exact hCh hdet).1
        have hwfs : (Lit.int .i64 sg).wf = true := by rcases hsg with rfl | rfl <;> decide
        have hinV := (hvT).inI
        rcases hvT with ⟨e0, -⟩ | ⟨g, c, rfl, -, hg2, hrow, -⟩
        · exact absurd e0 hne
        obtain ⟨n, hn⟩ : ∃ n, zs.length = n := ⟨_, rfl⟩
        have hn1 : 1 ≤ n := by have := List.length_pos_iff.mpr hne; omega
        have hnb : n ≤ 100 := by have := (chain_OkC hCh hM).2.2.1; omega
        have HL := Lib.hid hn
        have HR : Hid (∀ k, k < n → wT.cell? ⟨g, k, none⟩ = some (.int .i64 (zs.getD k 0))) := Lib.hid (fun k hk => by have := hrow k (by omega); simpa using this)
        rw [hn] at hinV ⊢
        clear hn hrow hsg hne hzl HC0 HC1 hdet
        go_wp2
        go_loopw [28] (fun vi wr => ∃ k : Nat, vi = .int .i64 k ∧ 1 ≤ k ∧ k ≤ n + 1 ∧ Below wT.heap.size wT wr) (fun vi wr => n + 1 - (intOf vi).toNat)
        case atStart => exact ⟨1, rfl, by omega, by omega, Below.refl _ _⟩
        case round =>
          obtain ⟨k, rfl, hk1, hk2, hbr⟩ := hrel
          by_cases hlt : k + 1 < n
          · have hlt' : ((k : Int) + 1 < (n : Int)) := by omega
            have q1 : wr.cell? ⟨g, k, none⟩ = some (.int .i64 (zs.getD k 0)) := by rw [hbr.cell (p := ⟨g, k, none⟩) hg2]; exact HR.out k (by omega)
            have hin := hIN.out k hk1 (by rw [HL.out]; exact hlt)
            have hkn : k < n := by omega
            generalize zs.getD k 0 = z at *
            rcases hin with hin | hin
            · have d1 : decide (-2 < z) = false := decide_eq_false (by omega)
              have d1' : ¬ (-2 < z) := by omega
              go_wp2
              go_roundw
              case rel => exact ⟨k + 1, by go_num, by omega, by omega, hbr⟩
              case measure => simp [intOf]; omega
            · have d1 : decide (-2 < z) = true := decide_eq_true (by omega)
              have d2 : decide (z < 2) = false := decide_eq_false (by omega)
              have d1' : -2 < z := by omega
              have d2' : ¬ (z < 2) := by omega
              go_wp2
              go_roundw
              case rel => exact ⟨k + 1, by go_num, by omega, by omega, hbr⟩
              case measure => simp [intOf]; omega
          · have hlt' : ¬ ((k : Int) + 1 < (n : Int)) := by omega
            have hmr := (hmT).below hbr (by omega)
            have hbW : Below W.heap.size W wr := (hbT).trans (hbr.mono (by omega))
            have hinr : InI wr (.slice (some ⟨g, 0, none⟩) n c) zs := by
              rcases hinV with ⟨e0, -⟩ | ⟨b', o', c', e1, e2, e3⟩
              · exfalso; have := HL.out; rw [e0] at this; simp at this; omega
              · refine .inr ⟨b', o', c', e1, Nat.lt_of_lt_of_le e2 hbr.size, fun k hk => ?_⟩
                rw [hbr.cell (p := ⟨b', o' + k, none⟩) e2]; exact e3 k hk
            clear hinV
            obtain ⟨y0, y1, y2, y3, y4, y5⟩ := id hmr
            simp only [] at y0 y1 y2 y3
            go_wp2_with fail
            refine (MatrixOfChain_c sg hwfs _ zs wr hinr (by rw [HL.out]; omega)).mono ?_
            rintro e w20 ⟨rfl, b20⟩
            have hm20 := hmr.below b20 (by omega)
            have hb20 : Below W.heap.size W w20 := hbW.trans (b20.mono (by have := hbW.size; omega))
            obtain ⟨v0, v1', v2', v3, v4, v5⟩ := hm20
            simp only [] at v0 v1' v2' v3
            clear y0 y1 y2 y3 y4 y5 hmr hbr b20 hinr hbW
            rcases hBK.out with hbk | ⟨hbk, hni⟩
            · have HB2 := Lib.hid hbk
              clear hbk
              rw [HB2.out]
              go_wp2
              go_returns
              exact ⟨rfl, (by repeat' (first | (with_reducible exact Below.refl _ _) | (with_reducible assumption) | (with_reducible refine below_drewN ?_ _) | (with_reducible refine Below.drew ?_) | (with_reducible refine Below.alloc ?_ ?_ _) | (with_reducible refine Below.setCell ?_ ?_ _) | (with_reducible refine Below.trans ?_ (Below.mono (by with_reducible assumption) ?_)) | go_size | (dsimp only; omega)))⟩
            · have HB2 := Lib.hid hbk
              clear hbk
              rw [HB2.out]
              have hni' : (p == 1 && (q == 0 && (r == 0 && t == 1))) = false := by
                rw [Bool.eq_false_iff]; intro h; simp at h; exact hni ⟨h.1, h.2.1, h.2.2.1, h.2.2.2⟩
              clear hni
              go_wp2
              go_returns
              exact ⟨rfl, (by repeat' (first | (with_reducible exact Below.refl _ _) | (with_reducible assumption) | (with_reducible refine below_drewN ?_ _) | (with_reducible refine Below.drew ?_) | (with_reducible refine Below.alloc ?_ ?_ _) | (with_reducible refine Below.setCell ?_ ?_ _) | (with_reducible refine Below.trans ?_ (Below.mono (by with_reducible assumption) ?_)) | go_size | (dsimp only; omega)))⟩
      · have hz0 := HC1.out hc1
        subst hz0
        have hc1' : (c1 == 0) = false := by simpa using hc1
        rcases hvT with ⟨-, p', c', rfl⟩ | ⟨g, c, rfl, -, -, -, -⟩
        · go_wp2
          go_returns
          exact ⟨rfl, (by repeat' (first | (with_reducible exact Below.refl _ _) | (with_reducible assumption) | (with_reducible refine below_drewN ?_ _) | (with_reducible refine Below.drew ?_) | (with_reducible refine Below.alloc ?_ ?_ _) | (with_reducible refine Below.setCell ?_ ?_ _) | (with_reducible refine Below.trans ?_ (Below.mono (by with_reducible assumption) ?_)) | go_size | (dsimp only; omega)))⟩
        · go_wp2
          go_returns
          exact ⟨rfl, (by repeat' (first | (with_reducible exact Below.refl _ _) | (with_reducible assumption) | (with_reducible refine below_drewN ?_ _) | (with_reducible refine Below.drew ?_) | (with_reducible refine Below.alloc ?_ ?_ _) | (with_reducible refine Below.setCell ?_ ?_ _) | (with_reducible refine Below.trans ?_ (Below.mono (by with_reducible assumption) ?_)) | go_size | (dsimp only; omega)))⟩
  · by_cases hp4 : p4 = 0
    · have hs1' : ¬ ((1 : Int) < (str.size : Int)) := by omega
      subst hp4
      go_upto_region 28 with fail
      generalize hwT : World.alloc _ _ = wT
      have bbT : Below w14.heap.size w14 wT := by subst hwT; exact (by repeat' (first | (with_reducible exact Below.refl _ _) | (with_reducible assumption) | (with_reducible refine below_drewN ?_ _) | (with_reducible refine Below.drew ?_) | (with_reducible refine Below.alloc ?_ ?_ _) | (with_reducible refine Below.setCell ?_ ?_ _) | (with_reducible refine Below.trans ?_ (Below.mono (by with_reducible assumption) ?_)) | go_size | (dsimp only; omega)))
      have hmT := hm14.below bbT (by omega)
      have hvT := hv14.below bbT (Nat.le_refl _)
      have hzT := bbT.size
      have hbT : Below W.heap.size W wT := hb14.trans (bbT.mono (by omega))
      clear hwT bbT hm14 hv14 hb14
      by_cases hc1 : c1 = 0
      · obtain ⟨hM, hCh⟩ := HC0.out hc1
        subst hc1
        obtain ⟨-, -, -, -, hdet⟩ := isM_iff.mp hM
        have hne := (chain_exact hCh hdet).2.1
        have hIN := Lib.hid (chain_inner hCh)
        have hBK := Lib.hid (chain_back hCh hM)
        have hsg := (chain_exact hCh hdet).1
        have hwfs : (Lit.int .i64 sg).wf = true := by rcases hsg with rfl | rfl <;> decide
        have hinV := (hvT).inI
        rcases hvT with ⟨e0, -⟩ | ⟨g, c, rfl, -, hg2, hrow, -⟩
        · exact absurd e0 hne
        obtain ⟨n, hn⟩ : ∃ n, zs.length = n := ⟨_, rfl⟩
        have hn1 : 1 ≤ n := by have := List.length_pos_iff.mpr hne; omega
        have hnb : n ≤ 100 := by have := (chain_OkC hCh hM).2.2.1; omega
        have HL := Lib.hid hn
        have HR : Hid (∀ k, k < n → wT.cell? ⟨g, k, none⟩ = some (.int .i64 (zs.getD k 0))) := Lib.hid (fun k hk => by have := hrow k (by omega); simpa using this)
        rw [hn] at hinV ⊢
        clear hn hrow hsg hne hzl HC0 HC1 hdet
        go_wp2
        go_loopw [28] (fun vi wr => ∃ k : Nat, vi = .int .i64 k ∧ 1 ≤ k ∧ k ≤ n + 1 ∧ Below wT.heap.size wT wr) (fun vi wr => n + 1 - (intOf vi).toNat)
        case atStart => exact ⟨1, rfl, by omega, by omega, Below.refl _ _⟩
        case round =>
          obtain ⟨k, rfl, hk1, hk2, hbr⟩ := hrel
          by_cases hlt : k + 1 < n
          · have hlt' : ((k : Int) + 1 < (n : Int)) := by omega
            have q1 : wr.cell? ⟨g, k, none⟩ = some (.int .i64 (zs.getD k 0)) := by rw [hbr.cell (p := ⟨g, k, none⟩) hg2]; exact HR.out k (by omega)
            have hin := hIN.out k hk1 (by rw [HL.out]; exact hlt)
            have hkn : k < n := by omega
            generalize zs.getD k 0 = z at *
            rcases hin with hin | hin
            · have d1 : decide (-2 < z) = false := decide_eq_false (by omega)
              have d1' : ¬ (-2 < z) := by omega
              go_wp2
              go_roundw
              case rel => exact ⟨k + 1, by go_num, by omega, by omega, hbr⟩
              case measure => simp [intOf]; omega
            · have d1 : decide (-2 < z) = true := decide_eq_true (by omega)
              have d2 : decide (z < 2) = false := decide_eq_false (by omega)
              have d1' : -2 < z := by omega
              have d2' : ¬ (z < 2) := by omega
              go_wp2
              go_roundw
              case rel => exact ⟨k + 1, by go_num, by omega, by omega, hbr⟩
              case measure => simp [intOf]; omega
          · have hlt' : ¬ ((k : Int) + 1 < (n : Int)) := by omega
            have hmr := (hmT).below hbr (by omega)
            have hbW : Below W.heap.size W wr := (hbT).trans (hbr.mono (by omega))
            have hinr : InI wr (.slice (some ⟨g, 0, none⟩) n c) zs := by
              rcases hinV with ⟨e0, -⟩ | ⟨b', o', c', e1, e2, e3⟩
              · exfalso; have := HL.out; rw [e0] at this; simp at this; omega
              · refine .inr ⟨b', o', c', e1, Nat.lt_of_lt_of_le e2 hbr.size, fun k hk => ?_⟩
                rw [hbr.cell (p := ⟨b', o' + k, none⟩) e2]; exact e3 k hk
            clear hinV
            obtain ⟨y0, y1, y2, y3, y4, y5⟩ := id hmr
            simp only [] at y0 y1 y2 y3
            go_wp2_with fail
            refine (MatrixOfChain_c sg hwfs _ zs wr hinr (by rw [HL.out]; omega)).mono ?_
            rintro e w20 ⟨rfl, b20⟩
            have hm20 := hmr.below b20 (by omega)
            have hb20 : Below W.heap.size W w20 := hbW.trans (b20.mono (by have := hbW.size; omega))
            obtain ⟨v0, v1', v2', v3, v4, v5⟩ := hm20
            simp only [] at v0 v1' v2' v3
            clear y0 y1 y2 y3 y4 y5 hmr hbr b20 hinr hbW
            rcases hBK.out with hbk | ⟨hbk, hni⟩
            · have HB2 := Lib.hid hbk
              clear hbk
              rw [HB2.out]
              go_wp2
              go_returns
              exact ⟨rfl, (by repeat' (first | (with_reducible exact Below.refl _ _) | (with_reducible assumption) | (with_reducible refine below_drewN ?_ _) | (with_reducible refine Below.drew ?_) | (with_reducible refine Below.alloc ?_ ?_ _) | (with_reducible refine Below.setCell ?_ ?_ _) | (with_reducible refine Below.trans ?_ (Below.mono (by with_reducible assumption) ?_)) | go_size | (dsimp only; omega)))⟩
            · have HB2 := Lib.hid hbk
              clear hbk
              rw [HB2.out]
              have hni' : (p == 1 && (q == 0 && (r == 0 && t == 1))) = false := by
                rw [Bool.eq_false_iff]; intro h; simp at h; exact hni ⟨h.1, h.2.1, h.2.2.1, h.2.2.2⟩
              clear hni
              go_wp2
              go_returns
              exact ⟨rfl, (by repeat' (first | (with_reducible exact Below.refl _ _) | (with_reducible assumption) | (with_reducible refine below_drewN ?_ _) | (with_reducible refine Below.drew ?_) | (with_reducible refine Below.alloc ?_ ?_ _) | (with_reducible refine Below.setCell ?_ ?_ _) | (with_reducible refine Below.trans ?_ (Below.mono (by with_reducible assumption) ?_)) | go_size | (dsimp only; omega)))⟩
      · have hz0 := HC1.out hc1
        subst hz0
        have hc1' : (c1 == 0) = false := by simpa using hc1
        rcases hvT with ⟨-, p', c', rfl⟩ | ⟨g, c, rfl, -, -, -, -⟩
        · go_wp2
          go_returns
          exact ⟨rfl, (by repeat' (first | (with_reducible exact Below.refl _ _) | (with_reducible assumption) | (with_reducible refine below_drewN ?_ _) | (with_reducible refine Below.drew ?_) | (with_reducible refine Below.alloc ?_ ?_ _) | (with_reducible refine Below.setCell ?_ ?_ _) | (with_reducible refine Below.trans ?_ (Below.mono (by with_reducible assumption) ?_)) | go_size | (dsimp only; omega)))⟩
        · go_wp2
          go_returns
          exact ⟨rfl, (by repeat' (first | (with_reducible exact Below.refl _ _) | (with_reducible assumption) | (with_reducible refine below_drewN ?_ _) | (with_reducible refine Below.drew ?_) | (with_reducible refine Below.alloc ?_ ?_ _) | (with_reducible refine Below.setCell ?_ ?_ _) | (with_reducible refine Below.trans ?_ (Below.mono (by with_reducible assumption) ?_)) | go_size | (dsimp only; omega)))⟩
    · have hp4' : (p4 == 0) = false := by simpa using hp4
      go_upto_region 28 with fail
      generalize hwT : World.alloc _ _ = wT
      have bbT : Below w14.heap.size w14 wT := by subst hwT; exact (by repeat' (first | (with_reducible exact Below.refl _ _) | (with_reducible assumption) | (with_reducible refine below_drewN ?_ _) | (with_reducible refine Below.drew ?_) | (with_reducible refine Below.alloc ?_ ?_ _) | (with_reducible refine Below.setCell ?_ ?_ _) | (with_reducible refine Below.trans ?_ (Below.mono (by with_reducible assumption) ?_)) | go_size | (dsimp only; omega)))
      have hmT := hm14.below bbT (by omega)
      have hvT := hv14.below bbT (Nat.le_refl _)
      have hzT := bbT.size
      have hbT : Below W.heap.size W wT := hb14.trans (bbT.mono (by omega))
      clear hwT bbT hm14 hv14 hb14
      by_cases hc1 : c1 = 0
      · obtain ⟨hM, hCh⟩ := HC0.out hc1
        subst hc1
        obtain ⟨-, -, -, -, hdet⟩ := isM_iff.mp hM
        have hne := (chain_exact hCh hdet).2.1
        have hIN := Lib.hid (chain_inner hCh)
        have hBK := Lib.hid (chain_back hCh hM)
        have hsg := (chain_exact hCh hdet).1
        have hwfs : (Lit.int .i64 sg).wf = true := by rcases hsg with rfl | rfl <;> decide
        have hinV := (hvT).inI
        rcases hvT with ⟨e0, -⟩ | ⟨g, c, rfl, -, hg2, hrow, -⟩
        · exact absurd e0 hne
        obtain ⟨n, hn⟩ : ∃ n, zs.length = n := ⟨_, rfl⟩
        have hn1 : 1 ≤ n := by have := List.length_pos_iff.mpr hne; omega
        have hnb : n ≤ 100 := by have := (chain_OkC hCh hM).2.2.1; omega
        have HL := Lib.hid hn
        have HR : Hid (∀ k, k < n → wT.cell? ⟨g, k, none⟩ = some (.int .i64 (zs.getD k 0))) := Lib.hid (fun k hk => by have := hrow k (by omega); simpa using this)
        rw [hn] at hinV ⊢
        clear hn hrow hsg hne hzl HC0 HC1 hdet
        go_wp2
        go_loopw [28] (fun vi wr => ∃ k : Nat, vi = .int .i64 k ∧ 1 ≤ k ∧ k ≤ n + 1 ∧ Below wT.heap.size wT wr) (fun vi wr => n + 1 - (intOf vi).toNat)
        case atStart => exact ⟨1, rfl, by omega, by omega, Below.refl _ _⟩
        case round =>
          obtain ⟨k, rfl, hk1, hk2, hbr⟩ := hrel
          by_cases hlt : k + 1 < n
          · have hlt' : ((k : Int) + 1 < (n : Int)) := by omega
            have q1 : wr.cell? ⟨g, k, none⟩ = some (.int .i64 (zs.getD k 0)) := by rw [hbr.cell (p := ⟨g, k, none⟩) hg2]; exact HR.out k (by omega)
            have hin := hIN.out k hk1 (by rw [HL.out]; exact hlt)
            have hkn : k < n := by omega
            generalize zs.getD k 0 = z at *
            rcases hin with hin | hin
            · have d1 : decide (-2 < z) = false := decide_eq_false (by omega)
              have d1' : ¬ (-2 < z) := by omega
              go_wp2
              go_roundw
              case rel => exact ⟨k + 1, by go_num, by omega, by omega, hbr⟩
              case measure => simp [intOf]; omega
            · have d1 : decide (-2 < z) = true := decide_eq_true (by omega)
              have d2 : decide (z < 2) = false := decide_eq_false (by omega)
              have d1' : -2 < z := by omega
              have d2' : ¬ (z < 2) := by omega
              go_wp2
              go_roundw
              case rel => exact ⟨k + 1, by go_num, by omega, by omega, hbr⟩
              case measure => simp [intOf]; omega
          · have hlt' : ¬ ((k : Int) + 1 < (n : Int)) := by omega
            have hmr := (hmT).below hbr (by omega)
            have hbW : Below W.heap.size W wr := (hbT).trans (hbr.mono (by omega))
            have hinr : InI wr (.slice (some ⟨g, 0, none⟩) n c) zs := by
              rcases hinV with ⟨e0, -⟩ | ⟨b', o', c', e1, e2, e3⟩
              · exfalso; have := HL.out; rw [e0] at this; simp at this; omega
              · refine .inr ⟨b', o', c', e1, Nat.lt_of_lt_of_le e2 hbr.size, fun k hk => ?_⟩
                rw [hbr.cell (p := ⟨b', o' + k, none⟩) e2]; exact e3 k hk
            clear hinV
            obtain ⟨y0, y1, y2, y3, y4, y5⟩ := id hmr
            simp only [] at y0 y1 y2 y3
            go_wp2_with fail
            refine (MatrixOfChain_c sg hwfs _ zs wr hinr (by rw [HL.out]; omega)).mono ?_
            rintro e w20 ⟨rfl, b20⟩
            have hm20 := hmr.below b20 (by omega)
            have hb20 : Below W.heap.size W w20 := hbW.trans (b20.mono (by have := hbW.size; omega))
            obtain ⟨v0, v1', v2', v3, v4, v5⟩ := hm20
            simp only [] at v0 v1' v2' v3
            clear y0 y1 y2 y3 y4 y5 hmr hbr b20 hinr hbW
            rcases hBK.out with hbk | ⟨hbk, hni⟩
            · have HB2 := Lib.hid hbk
              clear hbk
              rw [HB2.out]
              go_wp2
              go_returns
              exact ⟨rfl, (by repeat' (first | (with_reducible exact Below.refl _ _) | (with_reducible assumption) | (with_reducible refine below_drewN ?_ _) | (with_reducible refine Below.drew ?_) | (with_reducible refine Below.alloc ?_ ?_ _) | (with_reducible refine Below.setCell ?_ ?_ _) | (with_reducible refine Below.trans ?_ (Below.mono (by with_reducible assumption) ?_)) | go_size | (dsimp only; omega)))⟩
            · have HB2 := Lib.hid hbk
              clear hbk
              rw [HB2.out]
              have hni' : (p == 1 && (q == 0 && (r == 0 && t == 1))) = false := by
                rw [Bool.eq_false_iff]; intro h; simp at h; exact hni ⟨h.1, h.2.1, h.2.2.1, h.2.2.2⟩
              clear hni
              go_wp2
              go_returns
              exact ⟨rfl, (by repeat' (first | (with_reducible exact Below.refl _ _) | (with_reducible assumption) | (with_reducible refine below_drewN ?_ _) | (with_reducible refine Below.drew ?_) | (with_reducible refine Below.alloc ?_ ?_ _) | (with_reducible refine Below.setCell ?_ ?_ _) | (with_reducible refine Below.trans ?_ (Below.mono (by with_reducible assumption) ?_)) | go_size | (dsimp only; omega)))⟩
      · have hz0 := HC1.out hc1
        subst hz0
        have hc1' : (c1 == 0) = false := by simpa using hc1
        rcases hvT with ⟨-, p', c', rfl⟩ | ⟨g, c, rfl, -, -, -, -⟩
        · go_wp2
          go_returns
          exact ⟨rfl, (by repeat' (first | (with_reducible exact Below.refl _ _) | (with_reducible assumption) | (with_reducible refine below_drewN ?_ _) | (with_reducible refine Below.drew ?_) | (with_reducible refine Below.alloc ?_ ?_ _) | (with_reducible refine Below.setCell ?_ ?_ _) | (with_reducible refine Below.trans ?_ (Below.mono (by with_reducible assumption) ?_)) | go_size | (dsimp only; omega)))⟩
        · go_wp2
          go_returns
          exact ⟨rfl, (by repeat' (first | (with_reducible exact Below.refl _ _) | (with_reducible assumption) | (with_reducible refine below_drewN ?_ _) | (with_reducible refine Below.drew ?_) | (with_reducible refine Below.alloc ?_ ?_ _) | (with_reducible refine Below.setCell ?_ ?_ _) | (with_reducible refine Below.trans ?_ (Below.mono (by with_reducible assumption) ?_)) | go_size | (dsimp only; omega)))⟩
end Go.Proofs.Ytgpnfjpnbchglaa
