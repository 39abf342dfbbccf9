/- Draws of numbers and of words of matrices. -/
import Derived.Test.YtlkhhpckgcdeeaaGreatDoorGD
import Derived.Test.YtlkhhpckgcdeeaaGreatDoorGA
import Derived.Test.YtlkhhpckgcdeeaaGreatDoorAD
import Derived.Test.YtlkhhpckgcdeeaaGreatDoorN
import Derived.Test.YtlkhhpckgcdeeaaGreatDoorAQ
import Derived.Deep.RegionHeld3
namespace Go.Proofs.YtlkhhpckgcdeeaaGreatDoor
open Go.RowKit
set_option linter.unusedVariables false
set_option linter.unusedSimpArgs false
theorem rowI_alloc (w : World) (zs : List Int) (t : TypeId) : RowI (w.alloc (Obj.cells (zs.map (Value.int .i64)).toArray t)) w.heap.size 0 zs := by
  intro k hk
  have h := World.news_of_block (w := w.alloc (Obj.cells (zs.map (Value.int .i64)).toArray t)) (cs := (zs.map (Value.int .i64)).toArray) (t := t) (fr := (0, 0)) (heap_alloc_new w _) k (.int .i64 (zs.getD k 0)) (by simp [List.getD, hk])
  by_cases hk0 : k = 0
  · subst hk0; simpa [Addr.add] using h
  · simpa [Addr.add, hk0] using h
theorem RowI.kp {s B : Nat} {w w' : World} {b o : Nat} {zs : List Int} (h : RowI w b o zs) (hk : Kp s B w w') (hb : b < B) (hs : b ≠ s) : RowI w' b o zs := by
  intro k hk'
  rw [hk.cell (p := ⟨b, o + k, none⟩) hb hs]; exact h k hk'
theorem RowI.drew {w : World} {b o : Nat} {zs : List Int} (h : RowI w b o zs) : RowI w.drew b o zs := h
theorem pick_c (s g c : Nat) (zs : List Int) (w : World) (hS : Src s w) (hg : g < w.heap.size) (hgs : g ≠ s) (hr : RowI w g 0 zs) (h1 : 1 ≤ zs.length) (h2 : zs.length ≤ 1000) :
    Calls Tryz.prog 89 #[.pointer (some ⟨s, 0, none⟩), .slice (some ⟨g, 0, none⟩) zs.length c] w fun e w' => ∃ x : Int, e = .returned (.int .i64 x) ∧ x ∈ zs ∧ Src s w' ∧ Kp s w.heap.size w w' := by
  obtain ⟨n, hn⟩ : ∃ n, zs.length = n := ⟨_, rfl⟩
  rw [hn] at h1 h2 ⊢
  have HR := Lib.hid hr
  have HL := Lib.hid hn
  clear hr hn
  have hs := hS.lt
  go_enter Tryz.func89, Tryz.ntmps89
  go_wp2_with fail
  refine (next_c s n _ hS (by omega) (by omega)).mono ?_
  rintro e w1 ⟨x, rfl, hx0, hx1, hS1, hK1⟩
  have hx2 := hx1 (by omega)
  obtain ⟨k, rfl⟩ : ∃ k : Nat, x = k := ⟨x.toNat, by omega⟩
  have hkn : k < n := by omega
  have q1 : w1.cell? ⟨g, k, none⟩ = some (.int .i64 (zs.getD k 0)) := by
    rw [hK1.cell (p := ⟨g, k, none⟩) hg hgs]
    have := HR.out k (by rw [HL.out]; exact hkn)
    simpa using this
  have hmem : zs.getD k 0 ∈ zs := by
    have h : k < zs.length := by rw [HL.out]; exact hkn
    have e : zs.getD k 0 = zs[k] := by simp [List.getD, h]
    rw [e]; exact List.getElem_mem h
  generalize zs.getD k 0 = y at *
  go_wp2
  go_returns
  exact ⟨y, rfl, hmem, hS1, hK1⟩
/-- names that have matrices -/
def NamesRow (w : World) (g n : Nat) : Prop := ∀ k, k < n → ∃ (str : ByteArray) (a b c d : Int), w.cell? ⟨g, k, none⟩ = some (.string str) ∧ nameOf str.toList = some (a, b, c, d) ∧ isM a b c d = true
theorem NamesRow.kp {s B : Nat} {w w' : World} {g n : Nat} (h : NamesRow w g n) (hk : Kp s B w w') (hb : g < B) (hs : g ≠ s) : NamesRow w' g n := by
  intro k hk'
  obtain ⟨str, a, b, c, d, h1, h2, h3⟩ := h k hk'
  exact ⟨str, a, b, c, d, by rw [hk.cell (p := ⟨g, k, none⟩) hb hs]; exact h1, h2, h3⟩
/-- a matrix that lies in a block and may be written -/
def M4At (w : World) (b : Nat) (x : M4) : Prop := w.cell? ⟨b, 0, none⟩ = some (.int .i64 x.a) ∧ w.cell? ⟨b, 1, none⟩ = some (.int .i64 x.b) ∧ w.cell? ⟨b, 2, none⟩ = some (.int .i64 x.c) ∧ w.cell? ⟨b, 3, none⟩ = some (.int .i64 x.d) ∧ (∀ i, w.frozen? ⟨b, i, none⟩ = false) ∧ b < w.heap.size
theorem M4At.kp {s B : Nat} {w w' : World} {b : Nat} {x : M4} (h : M4At w b x) (hk : Kp s B w w') (hb : b < B) (hs : b ≠ s) : M4At w' b x := by
  obtain ⟨h0, h1, h2, h3, h4, h5⟩ := h
  refine ⟨?_, ?_, ?_, ?_, ?_, Nat.lt_of_lt_of_le h5 hk.size⟩
  · rw [hk.cell (p := ⟨b, 0, none⟩) hb hs]; exact h0
  · rw [hk.cell (p := ⟨b, 1, none⟩) hb hs]; exact h1
  · rw [hk.cell (p := ⟨b, 2, none⟩) hb hs]; exact h2
  · rw [hk.cell (p := ⟨b, 3, none⟩) hb hs]; exact h3
  · intro i; rw [hk.frozen (p := ⟨b, i, none⟩) hb hs]; exact h4 i
theorem m4At_alloc (w : World) (a b c d : Int) (t : TypeId) : M4At (w.alloc (Obj.cells #[.int .i64 a, .int .i64 b, .int .i64 c, .int .i64 d] t)) w.heap.size ⟨a, b, c, d⟩ :=
  ⟨by go_cell, by go_cell, by go_cell, by go_cell, (by intro i; first | (simp; done) | (go_simp; done)), by simp⟩
theorem m4At_set {w : World} {b : Nat} {x : M4} (h : M4At w b x) (p q r t : Int) : M4At ((((w.setCell ⟨b, 0, none⟩ (.int .i64 p)).setCell ⟨b, 1, none⟩ (.int .i64 q)).setCell ⟨b, 2, none⟩ (.int .i64 r)).setCell ⟨b, 3, none⟩ (.int .i64 t)) b ⟨p, q, r, t⟩ := by
  obtain ⟨h0, h1, h2, h3, h4, h5⟩ := h
  exact ⟨by go_simp, by go_simp, by go_simp, by go_simp, (by intro i; go_simp), by go_size⟩
theorem M4At.below {C : Nat} {w w' : World} {b : Nat} {x : M4} (h : M4At w b x) (hk : Below C w w') (hb : b < C) : M4At w' b x :=
  h.kp (s := C + b + 1) (.of_below hk) hb (by omega)
theorem NamesRow.below {C : Nat} {w w' : World} {g n : Nat} (h : NamesRow w g n) (hk : Below C w w') (hb : g < C) : NamesRow w' g n :=
  h.kp (s := C + g + 1) (.of_below hk) hb (by omega)
set_option maxRecDepth 100000 in
set_option maxHeartbeats 4000000 in
theorem drawWord_c (s : Nat) (n : Int) (w : World) (hS : Src s w) (hn0 : -1000 ≤ n) (hn1 : n ≤ 1000) :
    Calls Tryz.prog 77 #[.pointer (some ⟨s, 0, none⟩), .int .i64 n] w fun e w' => ∃ a b c d : Int, e = .returned (.agg #[.int .i64 a, .int .i64 b, .int .i64 c, .int .i64 d]) ∧ isM a b c d = true ∧ Src s w' ∧ Kp s w.heap.size w w' := by
  have hs := hS.lt
  go_enter Tryz.func77, Tryz.ntmps77
  go_wp2
  generalize hw0 : World.alloc _ _ = w0
  have hS0 : Src s w0 := by subst hw0; exact (by repeat' (first | (with_reducible assumption) | (with_reducible refine Src.drewN ?_ _) | (with_reducible refine Src.drew ?_) | (with_reducible refine Src.alloc ?_ _) | (with_reducible refine Src.setCell ?_ ?_ _) | (with_reducible refine Src.below ?_ (by with_reducible assumption) ?_) | go_size | (dsimp only; omega)))
  have hK0 : Kp s w.heap.size w w0 := by subst hw0; exact (by repeat' (first | (with_reducible exact Kp.refl _ _ _) | (with_reducible assumption) | (with_reducible refine Kp.drewN ?_ _) | (with_reducible refine Kp.drew ?_) | (with_reducible refine Kp.alloc ?_ ?_ _) | (with_reducible refine Kp.setCell ?_ ?_ _) | (with_reducible refine Kp.trans ?_ (Kp.mono (by with_reducible assumption) ?_)) | (with_reducible refine Kp.trans ?_ (Kp.of_below (Below.mono (by with_reducible assumption) ?_))) | go_size | (dsimp only; omega)))
  have hz0 : w.heap.size + 2 < w0.heap.size := by subst hw0; simp
  have hR0 : M4At w0 w.heap.size ⟨0, 0, 0, 0⟩ := by subst hw0; exact ⟨by go_cell, by go_cell, by go_cell, by go_cell, (by intro i; go_simp), by go_size⟩
  have hO0 : M4At w0 (w.heap.size + 1 + 1) M4.I := by subst hw0; (have h := m4At_alloc ((w.alloc (Obj.cells #[.int .i64 0, .int .i64 0, .int .i64 0, .int .i64 0] 25)).alloc (Obj.cells #[.string ⟨#[83]⟩, .string ⟨#[84]⟩, .string ⟨#[76]⟩, .string ⟨#[85]⟩, .string ⟨#[84]⟩, .string ⟨#[76]⟩] 9)) 1 0 0 1 25); simp at h; exact h
  have hN0 : NamesRow w0 (w.heap.size + 1) 6 := by
    subst hw0
    intro k hk
    match k, hk with
    | 0, _ => exact ⟨⟨#[83]⟩, 0, -1, 1, 0, by go_cell, by kernel_rfl, by decide⟩
    | 1, _ => exact ⟨⟨#[84]⟩, 1, 1, 0, 1, by go_cell, by kernel_rfl, by decide⟩
    | 2, _ => exact ⟨⟨#[76]⟩, 1, 0, 1, 1, by go_cell, by kernel_rfl, by decide⟩
    | 3, _ => exact ⟨⟨#[85]⟩, 1, -1, 1, 0, by go_cell, by kernel_rfl, by decide⟩
    | 4, _ => exact ⟨⟨#[84]⟩, 1, 1, 0, 1, by go_cell, by kernel_rfl, by decide⟩
    | 5, _ => exact ⟨⟨#[76]⟩, 1, 0, 1, 1, by go_cell, by kernel_rfl, by decide⟩
  clear hw0
  obtain ⟨R, hR⟩ : ∃ R, w.heap.size = R := ⟨_, rfl⟩
  rw [hR] at hs hK0 hz0 hR0 hO0 hN0 ⊢
  have HRW := Lib.hid hR
  clear hS hR
  go_loopw [1] (fun vn wr => ∃ (k : Int) (x : M4), vn = .int .i64 k ∧ -1000 ≤ k ∧ k ≤ 1000 ∧ x.ent = true ∧ x.det = 1 ∧ M4At wr (R + 1 + 1) x ∧ NamesRow wr (R + 1) 6 ∧ M4At wr R ⟨0, 0, 0, 0⟩ ∧ Src s wr ∧ Kp s R w wr ∧ R + 2 < wr.heap.size) (fun vn wr => (intOf vn).toNat)
  case atStart => exact ⟨n, M4.I, rfl, hn0, hn1, I_ent, by decide, hO0, hN0, hR0, hS0, hK0, hz0⟩
  case round =>
    clear hS0 hK0 hz0 hR0 hO0 hN0
    obtain ⟨k, x, rfl, hk0, hk1, hxe, hxd, hO, hN, hRR, hSr, hKr, hzr⟩ := hrel
    by_cases hlt : 0 < k
    · have hlt' : decide (0 < k) = true := decide_eq_true hlt
      go_wp2_with fail
      refine (next_c s 6 _ hSr (by omega) (by omega)).mono ?_
      rintro e w1 ⟨x1, rfl, hx10, hx11, hS1, hK1⟩
      have hx12 := hx11 (by omega)
      obtain ⟨j, rfl⟩ : ∃ j : Nat, x1 = j := ⟨x1.toNat, by omega⟩
      have hz1 := hK1.size
      have hs1 := hS1.lt
      have hO1 := hO.kp hK1 (by omega) (by omega)
      have hN1 := hN.kp hK1 (by omega) (by omega)
      have hR1 := hRR.kp hK1 (by omega) (by omega)
      have hKr1 : Kp s R w w1 := hKr.trans (hK1.mono (by omega))
      obtain ⟨str, ma, mb, mc, md, hst, hnm, hmM⟩ := hN1 j (by omega)
      have HNM := Lib.hid hnm
      clear hO hN hRR hSr hKr hK1 hnm hx10 hx11
      go_wp2_with fail
      refine (l01Named_c str _).mono ?_
      rintro e w2 ⟨rfl, b2⟩
      rw [HNM.out]
      simp only [optM, Option.isSome]
      have hz2 := b2.size
      have hS2 := hS1.below b2 (by omega)
      have hO2 := hO1.below b2 (by omega)
      have hN2 := hN1.below b2 (by omega)
      have hR2 := hR1.below b2 (by omega)
      have hKr2 : Kp s R w w2 := hKr1.trans ((Kp.of_below b2).mono (by omega))
      clear hS1 hO1 hN1 hR1 hKr1 b2 hst HNM
      obtain ⟨me, mdet⟩ := isM_to hmM
      go_wp2_with fail
      generalize hw3 : World.alloc _ _ = w3
      obtain ⟨m, hm⟩ : ∃ m, w2.heap.size = m := ⟨_, rfl⟩
      have hM3 : M4At w3 m ⟨ma, mb, mc, md⟩ := by subst hw3 hm; exact ⟨by go_cell, by go_cell, by go_cell, by go_cell, (by intro i; go_simp), by simp⟩
      have hz3 : m < w3.heap.size := by subst hw3 hm; simp
      have b3 : Below m w2 w3 := by subst hw3 hm; exact (by repeat' (first | (with_reducible exact Below.refl _ _) | (with_reducible assumption) | (with_reducible refine below_drewN ?_ _) | (with_reducible refine Below.drew ?_) | (with_reducible refine Below.alloc ?_ ?_ _) | (with_reducible refine Below.setCell ?_ ?_ _) | (with_reducible refine Below.trans ?_ (Below.mono (by with_reducible assumption) ?_)) | go_size | (dsimp only; omega)))
      rw [hm] at hz2 ⊢
      have hS3 := hS2.below b3 (by omega)
      have hO3 := hO2.below b3 (by omega)
      have hN3 := hN2.below b3 (by omega)
      have hR3 := hR2.below b3 (by omega)
      have hKr3 : Kp s R w w3 := hKr2.trans ((Kp.of_below b3).mono (by omega))
      clear hS2 hO2 hN2 hR2 hKr2 b3 hw3 hm
      refine (next_c s 3 _ hS3 (by omega) (by omega)).mono ?_
      rintro e w4 ⟨x4, rfl, -, -, hS4, hK4⟩
      have hz4 := hK4.size
      have hs4 := hS4.lt
      have hM4 := hM3.kp hK4 (by omega) (by omega)
      have hO4 := hO3.kp hK4 (by omega) (by omega)
      have hN4 := hN3.kp hK4 (by omega) (by omega)
      have hR4 := hR3.kp hK4 (by omega) (by omega)
      have hKr4 : Kp s R w w4 := hKr3.trans (hK4.mono (by omega))
      clear hS3 hM3 hO3 hN3 hR3 hKr3 hK4
      by_cases hx4 : x4 = 0
      · subst hx4
        obtain ⟨y0, y1, y2, y3, y4, y5⟩ := hM4
        obtain ⟨i0, i1, i2, i3⟩ := M4.ent_iff.mp me
        have j0 := ent_iff.mp i0
        have j1 := ent_iff.mp i1
        have j2 := ent_iff.mp i2
        have j3 := ent_iff.mp i3
        simp only [] at j0 j1 j2 j3 y0 y1 y2 y3
        go_wp2_with fail
        refine (l01Inverse_c ma mb mc md _ j0.1 j0.2 j1.1 j1.2 j2.1 j2.2 j3.1 j3.2).mono ?_
        rintro e w5 ⟨rfl, b5⟩
        have hz5 := b5.size
        have hS5 := hS4.below b5 (by omega)
        have hO5 := hO4.below b5 (by omega)
        have hN5 := hN4.below b5 (by omega)
        have hR5 := hR4.below b5 (by omega)
        have hM5 : M4At w5 m ⟨ma, mb, mc, md⟩ := M4At.below ⟨y0, y1, y2, y3, y4, y5⟩ b5 (by omega)
        have hKr5 : Kp s R w w5 := hKr4.trans ((Kp.of_below b5).mono (by omega))
        obtain ⟨v0, v1, v2, v3, v4, v5⟩ := hM5
        clear hS4 hO4 hN4 hR4 hKr4 b5 y0 y1 y2 y3 y4 y5
        simp only [] at v0 v1 v2 v3
        go_wp2_with fail
        obtain ⟨mm, hmm⟩ : ∃ mm : M4, mm = ⟨md, -mb, -mc, ma⟩ := ⟨_, rfl⟩
        have hme : mm.ent = true := by rw [hmm]; exact M4.ent_iff.mpr ⟨ent_iff.mpr (by dsimp only; omega), ent_iff.mpr (by dsimp only; omega), ent_iff.mpr (by dsimp only; omega), ent_iff.mpr (by dsimp only; omega)⟩
        have hmd : mm.det = 1 := by rw [hmm]; have := mdet; simp only [M4.det] at this ⊢; rw [Int.neg_mul_neg, Int.mul_comm md ma]; exact this
        generalize hw6 : World.alloc _ _ = w6
        obtain ⟨G, hG⟩ : ∃ G, w5.heap.size = G := ⟨_, rfl⟩
        have hL6 : RowI w6 G 0 [1, 1, 1, 2, 3] := by subst hw6 hG; (have h := rowI_alloc ((((w5.setCell ⟨m, 0, none⟩ (.int .i64 md)).setCell ⟨m, 1, none⟩ (.int .i64 (-mb))).setCell ⟨m, 2, none⟩ (.int .i64 (-mc))).setCell ⟨m, 3, none⟩ (.int .i64 ma)) [1, 1, 1, 2, 3] 2); simpa using h
        have hz6 : G < w6.heap.size := by subst hw6 hG; go_size
        have k6 : Kp m w5.heap.size w5 w6 := by subst hw6; exact ((((((Kp.refl m _ _).setSrc (p := ⟨m, 0, none⟩) rfl _).setSrc (p := ⟨m, 1, none⟩) rfl _).setSrc (p := ⟨m, 2, none⟩) rfl _).setSrc (p := ⟨m, 3, none⟩) rfl _).alloc (by go_size) _)
        have hM6 : M4At w6 m mm := by rw [hmm]; subst hw6; exact (m4At_set (x := ⟨ma, mb, mc, md⟩) ⟨v0, v1, v2, v3, v4, v5⟩ md (-mb) (-mc) ma).below (Below.alloc (Below.refl _ _) (Nat.le_refl _) _) (by go_size)
        have hS6 : Src s w6 := by subst hw6; exact (by repeat' (first | (with_reducible assumption) | (with_reducible refine Src.drewN ?_ _) | (with_reducible refine Src.drew ?_) | (with_reducible refine Src.alloc ?_ _) | (with_reducible refine Src.setCell ?_ ?_ _) | (with_reducible refine Src.below ?_ (by with_reducible assumption) ?_) | go_size | (dsimp only; omega)))
        have hO6 := hO5.kp k6 (by omega) (by omega)
        have hN6 := hN5.kp k6 (by omega) (by omega)
        have hR6 := hR5.kp k6 (by omega) (by omega)
        have hKr6 : Kp s R w w6 := by subst hw6; exact (by repeat' (first | (with_reducible exact Kp.refl _ _ _) | (with_reducible assumption) | (with_reducible refine Kp.drewN ?_ _) | (with_reducible refine Kp.drew ?_) | (with_reducible refine Kp.alloc ?_ ?_ _) | (with_reducible refine Kp.setCell ?_ ?_ _) | (with_reducible refine Kp.trans ?_ (Kp.mono (by with_reducible assumption) ?_)) | (with_reducible refine Kp.trans ?_ (Kp.of_below (Below.mono (by with_reducible assumption) ?_))) | go_size | (dsimp only; omega)))
        rw [hG]
        clear hw6 k6 hmm hO5 hN5 hR5 hKr5 hS5 v0 v1 v2 v3 v4
        refine (pick_c s G _ [1, 1, 1, 2, 3] _ hS6 (by omega) (by omega) hL6 (by decide) (by decide)).mono ?_
        rintro e w7 ⟨x7, rfl, hx7, hS7, hK7⟩
        have hx7b : 1 ≤ x7 ∧ x7 ≤ 3 := by simp at hx7; omega
        have hz7 := hK7.size
        have hM7 := hM6.kp hK7 (by omega) (by omega)
        have hO7 := hO6.kp hK7 (by omega) (by omega)
        have hN7 := hN6.kp hK7 (by omega) (by omega)
        have hR7 := hR6.kp hK7 (by omega) (by omega)
        have hKr7 : Kp s R w w7 := hKr6.trans (hK7.mono (by omega))
        clear hx7 hS6 hM6 hO6 hN6 hR6 hKr6 hK7 hL6
        go_wp2
        go_loopw [9] (fun vn wq => ∃ (i : Int) (y : M4), vn = .int .i64 i ∧ -1000 ≤ i ∧ i ≤ 1000 ∧ y.ent = true ∧ y.det = 1 ∧ M4At wq (R + 1 + 1) y ∧ M4At wq m mm ∧ NamesRow wq (R + 1) 6 ∧ M4At wq R ⟨0, 0, 0, 0⟩ ∧ Src s wq ∧ Kp s R w wq ∧ m < wq.heap.size) (fun vn wq => (intOf vn).toNat)
        case atStart => exact ⟨x7, x, rfl, by omega, by omega, hxe, hxd, hO7, hM7, hN7, hR7, hS7, hKr7, by omega⟩
        case round =>
          clear hM7 hO7 hN7 hR7 hS7 hKr7 hz7 hx7b hxe hxd
          obtain ⟨i, y, rfl, hi0, hi1, hye, hyd, hOq, hMq, hNq, hRq, hSq, hKq, hmq⟩ := hrel
          have hsq := hSq.lt
          by_cases hii : 0 < i
          · have hii' : decide (0 < i) = true := decide_eq_true hii
            obtain ⟨o0, o1, o2, o3, o4, o5⟩ := hOq
            obtain ⟨m0, m1, m2, m3, m4, m5⟩ := id hMq
            cases he : (y.mul mm).ent
            · go_wp2_with fail
              refine (l01Times_no y mm _ hye hme he).mono ?_
              rintro e w8 ⟨rfl, b8⟩
              have hz8 := b8.size
              have hO8 : M4At w8 (R + 1 + 1) y := M4At.below ⟨o0, o1, o2, o3, o4, o5⟩ b8 (by omega)
              have hM8 := hMq.below b8 (by omega)
              have hN8 := hNq.below b8 (by omega)
              have hR8 := hRq.below b8 (by omega)
              have hS8 := hSq.below b8 (by omega)
              have hK8 : Kp s R w w8 := hKq.trans ((Kp.of_below b8).mono (by omega))
              clear o0 o1 o2 o3 o4 o5 m0 m1 m2 m3 m4 m5 hMq hNq hRq hSq hKq b8
              clear he
              have b9 : Below w8.heap.size w8 (w8.alloc (Obj.cells #[.int .i64 0, .int .i64 0, .int .i64 0, .int .i64 0] 25)) := (by repeat' (first | (with_reducible exact Below.refl _ _) | (with_reducible assumption) | (with_reducible refine below_drewN ?_ _) | (with_reducible refine Below.drew ?_) | (with_reducible refine Below.alloc ?_ ?_ _) | (with_reducible refine Below.setCell ?_ ?_ _) | (with_reducible refine Below.trans ?_ (Below.mono (by with_reducible assumption) ?_)) | go_size | (dsimp only; omega)))
              go_wp2
              exact ⟨⟨i - 1, y, rfl, by omega, by omega, hye, hyd, hO8.below b9 (by omega), hM8.below b9 (by omega), hN8.below b9 (by omega), hR8.below b9 (by omega), hS8.below b9 (by omega), hK8.trans ((Kp.of_below b9).mono (by omega)), by go_size⟩, by simp only [intOf]; omega⟩
            · obtain ⟨z, hz⟩ : ∃ z, y.mul mm = z := ⟨_, rfl⟩
              have hzd : z.det = 1 := by rw [← hz, M4.det_mul, hyd, hmd]; rfl
              have hze : z.ent = true := by rw [← hz]; exact he
              go_wp2_with fail
              refine (l01Times_yes y mm _ hye hme he).mono ?_
              rintro e w8 ⟨rfl, b8⟩
              have hz8 := b8.size
              have hO8 : M4At w8 (R + 1 + 1) y := M4At.below ⟨o0, o1, o2, o3, o4, o5⟩ b8 (by omega)
              have hM8 := hMq.below b8 (by omega)
              have hN8 := hNq.below b8 (by omega)
              have hR8 := hRq.below b8 (by omega)
              have hS8 := hSq.below b8 (by omega)
              have hK8 : Kp s R w w8 := hKq.trans ((Kp.of_below b8).mono (by omega))
              clear o0 o1 o2 o3 o4 o5 m0 m1 m2 m3 m4 m5 hMq hNq hRq hSq hKq b8
              rw [hz]
              simp only [M4.v]
              clear he hz
              obtain ⟨p0, p1, p2, p3, p4, p5⟩ := id hO8
              go_wp2
              generalize hw9 : World.alloc _ _ = w9
              have hO9 : M4At w9 (R + 1 + 1) z := by subst hw9; exact (m4At_set hO8 z.a z.b z.c z.d).below (Below.alloc (Below.refl _ _) (Nat.le_refl _) _) (by go_size)
              have k9 : Kp (R + 1 + 1) w8.heap.size w8 w9 := by subst hw9; exact (((((Kp.refl _ _ _).setSrc (p := ⟨R + 1 + 1, 0, none⟩) rfl _).setSrc (p := ⟨R + 1 + 1, 1, none⟩) rfl _).setSrc (p := ⟨R + 1 + 1, 2, none⟩) rfl _).setSrc (p := ⟨R + 1 + 1, 3, none⟩) rfl _).alloc (by go_size) _
              have hM9 := hM8.kp k9 (by omega) (by omega)
              have hN9 := hN8.kp k9 (by omega) (by omega)
              have hR9 := hR8.kp k9 (by omega) (by omega)
              have hS9 : Src s w9 := by subst hw9; exact (by repeat' (first | (with_reducible assumption) | (with_reducible refine Src.drewN ?_ _) | (with_reducible refine Src.drew ?_) | (with_reducible refine Src.alloc ?_ _) | (with_reducible refine Src.setCell ?_ ?_ _) | (with_reducible refine Src.below ?_ (by with_reducible assumption) ?_) | go_size | (dsimp only; omega)))
              have hK9 : Kp s R w w9 := by subst hw9; exact (by repeat' (first | (with_reducible exact Kp.refl _ _ _) | (with_reducible assumption) | (with_reducible refine Kp.drewN ?_ _) | (with_reducible refine Kp.drew ?_) | (with_reducible refine Kp.alloc ?_ ?_ _) | (with_reducible refine Kp.setCell ?_ ?_ _) | (with_reducible refine Kp.trans ?_ (Kp.mono (by with_reducible assumption) ?_)) | (with_reducible refine Kp.trans ?_ (Kp.of_below (Below.mono (by with_reducible assumption) ?_))) | go_size | (dsimp only; omega)))
              have hz9 : m < w9.heap.size := by subst hw9; go_size
              exact ⟨⟨i - 1, z, rfl, by omega, by omega, hze, hzd, hO9, hM9, hN9, hR9, hS9, hK9, hz9⟩, by simp only [intOf]; omega⟩
          · have hii' : decide (0 < i) = false := decide_eq_false hii
            go_wp2
            exact ⟨⟨k - 1, y, rfl, by omega, by omega, hye, hyd, hOq, hNq, hRq, hSq, hKq, by omega⟩, by simp only [intOf]; omega⟩
      · have hx4' : (x4 == 0) = false := by simpa using hx4
        obtain ⟨v0, v1, v2, v3, v4, v5⟩ := hM4
        simp only [] at v0 v1 v2 v3
        go_wp2_with fail
        obtain ⟨mm, hmm⟩ : ∃ mm : M4, mm = ⟨ma, mb, mc, md⟩ := ⟨_, rfl⟩
        have hme : mm.ent = true := by rw [hmm]; exact me
        have hmd : mm.det = 1 := by rw [hmm]; exact mdet
        generalize hw6 : World.alloc _ _ = w6
        obtain ⟨G, hG⟩ : ∃ G, w4.heap.size = G := ⟨_, rfl⟩
        have hL6 : RowI w6 G 0 [1, 1, 1, 2, 3] := by subst hw6 hG; (have h := rowI_alloc w4 [1, 1, 1, 2, 3] 2); simpa using h
        have hz6 : G < w6.heap.size := by subst hw6 hG; go_size
        have k6 : Kp m w4.heap.size w4 w6 := by subst hw6; exact ((Kp.refl m _ _).alloc (Nat.le_refl _) _)
        have hM6 : M4At w6 m mm := by rw [hmm]; subst hw6; exact M4At.below (x := ⟨ma, mb, mc, md⟩) ⟨v0, v1, v2, v3, v4, v5⟩ (Below.alloc (Below.refl w4.heap.size _) (Nat.le_refl _) _) (by go_size)
        have hS6 : Src s w6 := by subst hw6; exact (by repeat' (first | (with_reducible assumption) | (with_reducible refine Src.drewN ?_ _) | (with_reducible refine Src.drew ?_) | (with_reducible refine Src.alloc ?_ _) | (with_reducible refine Src.setCell ?_ ?_ _) | (with_reducible refine Src.below ?_ (by with_reducible assumption) ?_) | go_size | (dsimp only; omega)))
        have hO6 := hO4.kp k6 (by omega) (by omega)
        have hN6 := hN4.kp k6 (by omega) (by omega)
        have hR6 := hR4.kp k6 (by omega) (by omega)
        have hKr6 : Kp s R w w6 := by subst hw6; exact (by repeat' (first | (with_reducible exact Kp.refl _ _ _) | (with_reducible assumption) | (with_reducible refine Kp.drewN ?_ _) | (with_reducible refine Kp.drew ?_) | (with_reducible refine Kp.alloc ?_ ?_ _) | (with_reducible refine Kp.setCell ?_ ?_ _) | (with_reducible refine Kp.trans ?_ (Kp.mono (by with_reducible assumption) ?_)) | (with_reducible refine Kp.trans ?_ (Kp.of_below (Below.mono (by with_reducible assumption) ?_))) | go_size | (dsimp only; omega)))
        rw [hG]
        clear hw6 k6 hmm hO4 hN4 hR4 hKr4 hS4 v0 v1 v2 v3 v4
        refine (pick_c s G _ [1, 1, 1, 2, 3] _ hS6 (by omega) (by omega) hL6 (by decide) (by decide)).mono ?_
        rintro e w7 ⟨x7, rfl, hx7, hS7, hK7⟩
        have hx7b : 1 ≤ x7 ∧ x7 ≤ 3 := by simp at hx7; omega
        have hz7 := hK7.size
        have hM7 := hM6.kp hK7 (by omega) (by omega)
        have hO7 := hO6.kp hK7 (by omega) (by omega)
        have hN7 := hN6.kp hK7 (by omega) (by omega)
        have hR7 := hR6.kp hK7 (by omega) (by omega)
        have hKr7 : Kp s R w w7 := hKr6.trans (hK7.mono (by omega))
        clear hx7 hS6 hM6 hO6 hN6 hR6 hKr6 hK7 hL6
        go_wp2
        go_loopw [9] (fun vn wq => ∃ (i : Int) (y : M4), vn = .int .i64 i ∧ -1000 ≤ i ∧ i ≤ 1000 ∧ y.ent = true ∧ y.det = 1 ∧ M4At wq (R + 1 + 1) y ∧ M4At wq m mm ∧ NamesRow wq (R + 1) 6 ∧ M4At wq R ⟨0, 0, 0, 0⟩ ∧ Src s wq ∧ Kp s R w wq ∧ m < wq.heap.size) (fun vn wq => (intOf vn).toNat)
        case atStart => exact ⟨x7, x, rfl, by omega, by omega, hxe, hxd, hO7, hM7, hN7, hR7, hS7, hKr7, by omega⟩
        case round =>
          clear hM7 hO7 hN7 hR7 hS7 hKr7 hz7 hx7b hxe hxd
          obtain ⟨i, y, rfl, hi0, hi1, hye, hyd, hOq, hMq, hNq, hRq, hSq, hKq, hmq⟩ := hrel
          have hsq := hSq.lt
          by_cases hii : 0 < i
          · have hii' : decide (0 < i) = true := decide_eq_true hii
            obtain ⟨o0, o1, o2, o3, o4, o5⟩ := hOq
            obtain ⟨m0, m1, m2, m3, m4, m5⟩ := id hMq
            cases he : (y.mul mm).ent
            · go_wp2_with fail
              refine (l01Times_no y mm _ hye hme he).mono ?_
              rintro e w8 ⟨rfl, b8⟩
              have hz8 := b8.size
              have hO8 : M4At w8 (R + 1 + 1) y := M4At.below ⟨o0, o1, o2, o3, o4, o5⟩ b8 (by omega)
              have hM8 := hMq.below b8 (by omega)
              have hN8 := hNq.below b8 (by omega)
              have hR8 := hRq.below b8 (by omega)
              have hS8 := hSq.below b8 (by omega)
              have hK8 : Kp s R w w8 := hKq.trans ((Kp.of_below b8).mono (by omega))
              clear o0 o1 o2 o3 o4 o5 m0 m1 m2 m3 m4 m5 hMq hNq hRq hSq hKq b8
              clear he
              have b9 : Below w8.heap.size w8 (w8.alloc (Obj.cells #[.int .i64 0, .int .i64 0, .int .i64 0, .int .i64 0] 25)) := (by repeat' (first | (with_reducible exact Below.refl _ _) | (with_reducible assumption) | (with_reducible refine below_drewN ?_ _) | (with_reducible refine Below.drew ?_) | (with_reducible refine Below.alloc ?_ ?_ _) | (with_reducible refine Below.setCell ?_ ?_ _) | (with_reducible refine Below.trans ?_ (Below.mono (by with_reducible assumption) ?_)) | go_size | (dsimp only; omega)))
              go_wp2
              exact ⟨⟨i - 1, y, rfl, by omega, by omega, hye, hyd, hO8.below b9 (by omega), hM8.below b9 (by omega), hN8.below b9 (by omega), hR8.below b9 (by omega), hS8.below b9 (by omega), hK8.trans ((Kp.of_below b9).mono (by omega)), by go_size⟩, by simp only [intOf]; omega⟩
            · obtain ⟨z, hz⟩ : ∃ z, y.mul mm = z := ⟨_, rfl⟩
              have hzd : z.det = 1 := by rw [← hz, M4.det_mul, hyd, hmd]; rfl
              have hze : z.ent = true := by rw [← hz]; exact he
              go_wp2_with fail
              refine (l01Times_yes y mm _ hye hme he).mono ?_
              rintro e w8 ⟨rfl, b8⟩
              have hz8 := b8.size
              have hO8 : M4At w8 (R + 1 + 1) y := M4At.below ⟨o0, o1, o2, o3, o4, o5⟩ b8 (by omega)
              have hM8 := hMq.below b8 (by omega)
              have hN8 := hNq.below b8 (by omega)
              have hR8 := hRq.below b8 (by omega)
              have hS8 := hSq.below b8 (by omega)
              have hK8 : Kp s R w w8 := hKq.trans ((Kp.of_below b8).mono (by omega))
              clear o0 o1 o2 o3 o4 o5 m0 m1 m2 m3 m4 m5 hMq hNq hRq hSq hKq b8
              rw [hz]
              simp only [M4.v]
              clear he hz
              obtain ⟨p0, p1, p2, p3, p4, p5⟩ := id hO8
              go_wp2
              generalize hw9 : World.alloc _ _ = w9
              have hO9 : M4At w9 (R + 1 + 1) z := by subst hw9; exact (m4At_set hO8 z.a z.b z.c z.d).below (Below.alloc (Below.refl _ _) (Nat.le_refl _) _) (by go_size)
              have k9 : Kp (R + 1 + 1) w8.heap.size w8 w9 := by subst hw9; exact (((((Kp.refl _ _ _).setSrc (p := ⟨R + 1 + 1, 0, none⟩) rfl _).setSrc (p := ⟨R + 1 + 1, 1, none⟩) rfl _).setSrc (p := ⟨R + 1 + 1, 2, none⟩) rfl _).setSrc (p := ⟨R + 1 + 1, 3, none⟩) rfl _).alloc (by go_size) _
              have hM9 := hM8.kp k9 (by omega) (by omega)
              have hN9 := hN8.kp k9 (by omega) (by omega)
              have hR9 := hR8.kp k9 (by omega) (by omega)
              have hS9 : Src s w9 := by subst hw9; exact (by repeat' (first | (with_reducible assumption) | (with_reducible refine Src.drewN ?_ _) | (with_reducible refine Src.drew ?_) | (with_reducible refine Src.alloc ?_ _) | (with_reducible refine Src.setCell ?_ ?_ _) | (with_reducible refine Src.below ?_ (by with_reducible assumption) ?_) | go_size | (dsimp only; omega)))
              have hK9 : Kp s R w w9 := by subst hw9; exact (by repeat' (first | (with_reducible exact Kp.refl _ _ _) | (with_reducible assumption) | (with_reducible refine Kp.drewN ?_ _) | (with_reducible refine Kp.drew ?_) | (with_reducible refine Kp.alloc ?_ ?_ _) | (with_reducible refine Kp.setCell ?_ ?_ _) | (with_reducible refine Kp.trans ?_ (Kp.mono (by with_reducible assumption) ?_)) | (with_reducible refine Kp.trans ?_ (Kp.of_below (Below.mono (by with_reducible assumption) ?_))) | go_size | (dsimp only; omega)))
              have hz9 : m < w9.heap.size := by subst hw9; go_size
              exact ⟨⟨i - 1, z, rfl, by omega, by omega, hze, hzd, hO9, hM9, hN9, hR9, hS9, hK9, hz9⟩, by simp only [intOf]; omega⟩
          · have hii' : decide (0 < i) = false := decide_eq_false hii
            go_wp2
            exact ⟨⟨k - 1, y, rfl, by omega, by omega, hye, hyd, hOq, hNq, hRq, hSq, hKq, by omega⟩, by simp only [intOf]; omega⟩
    · have hlt' : decide (0 < k) = false := decide_eq_false hlt
      obtain ⟨o0, o1, o2, o3, o4, o5⟩ := hO
      obtain ⟨r0, r1, r2, r3, r4, r5⟩ := hRR
      simp only [] at r0 r1 r2 r3
      have hM := isM_of hxe hxd
      go_wp2
      exact bodyPost_ret (v := .agg #[.int .i64 x.a, .int .i64 x.b, .int .i64 x.c, .int .i64 x.d]) (by simp only [results, Tryz.results77]; go_simp) rfl ⟨x.a, x.b, x.c, x.d, rfl, hM, (by repeat' (first | (with_reducible assumption) | (with_reducible refine Src.drewN ?_ _) | (with_reducible refine Src.drew ?_) | (with_reducible refine Src.alloc ?_ _) | (with_reducible refine Src.setCell ?_ ?_ _) | (with_reducible refine Src.below ?_ (by with_reducible assumption) ?_) | go_size | (dsimp only; omega))), by rw [HRW.out]; exact (by repeat' (first | (with_reducible exact Kp.refl _ _ _) | (with_reducible assumption) | (with_reducible refine Kp.drewN ?_ _) | (with_reducible refine Kp.drew ?_) | (with_reducible refine Kp.alloc ?_ ?_ _) | (with_reducible refine Kp.setCell ?_ ?_ _) | (with_reducible refine Kp.trans ?_ (Kp.mono (by with_reducible assumption) ?_)) | (with_reducible refine Kp.trans ?_ (Kp.of_below (Below.mono (by with_reducible assumption) ?_))) | go_size | (dsimp only; omega)))⟩
end Go.Proofs.YtlkhhpckgcdeeaaGreatDoor
