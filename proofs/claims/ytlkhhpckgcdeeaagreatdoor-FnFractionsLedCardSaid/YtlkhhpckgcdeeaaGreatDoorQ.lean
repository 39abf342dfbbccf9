import Derived.Test.YtlkhhpckgcdeeaaGreatDoorP
import Derived.Deep.RegionHeld3
namespace Go.Proofs.YtlkhhpckgcdeeaaGreatDoor
open Go.RowKit
set_option linter.unusedVariables false
set_option linter.unusedSimpArgs false
attribute [local go_sem] run_min_int4 run_max_int4
attribute [local go_sem] run_equalIn_M
theorem prodL_I {m : M4} {l : List M4} (h : m.ent = true) : prodL M4.I (m :: l) = prodL m l := by
  have e : M4.I.mul m = m := by simp [M4.mul, M4.I]
  rw [prodL, e, if_pos h]
set_option maxHeartbeats 8000000 in
theorem l01Product_c (b off n cap : Nat) (x : M4) (l : List M4) (w : World) (hl : l.length + 1 = n) (hn : n ≤ 1000000000) (hbb : b < w.heap.size) (hc : RowM w b off (x :: l)) (he : ∀ m ∈ x :: l, m.ent = true) :
    Calls Tryz.prog 79 #[.slice (some ⟨b, off, none⟩) n cap] w fun e w' => e = .returned (prodV (prodL M4.I (x :: l))) ∧ Below w.heap.size w w' := by
  have hx0 : x.ent = true := he x (by simp)
  have hr := prodL_I (l := l) hx0
  have HR := Lib.hid hr
  obtain ⟨c0, c1, c2, c3⟩ := hc 0 x rfl
  simp only [Nat.zero_mul, Nat.add_zero] at c0 c1 c2 c3
  have hn0 : (0 : Int) < (n : Int) := by omega
  have hn1 : 0 < n := by omega
  have HL := Lib.hid hl
  have HC := Lib.hid hc
  have HE := Lib.hid he
  have HX0 := Lib.hid hx0
  clear hl hc he hr hx0
  go_enter Tryz.func79, Tryz.ntmps79
  go_wp2
  go_loopw [5] (fun i wr => ∃ k : Nat, 1 ≤ k ∧ k ≤ n ∧ i = .int .i64 k ∧ ∃ p q r s : Int, Hid (M4.ent ⟨p, q, r, s⟩ = true) ∧ Hid (prodL ⟨p, q, r, s⟩ ((x :: l).drop k) = prodL M4.I (x :: l)) ∧
      wr.cell? ⟨w.heap.size + 1, 0, none⟩ = some (.int .i64 p) ∧ wr.cell? ⟨w.heap.size + 1, 1, none⟩ = some (.int .i64 q) ∧ wr.cell? ⟨w.heap.size + 1, 2, none⟩ = some (.int .i64 r) ∧ wr.cell? ⟨w.heap.size + 1, 3, none⟩ = some (.int .i64 s) ∧
      (∀ i, wr.frozen? ⟨w.heap.size + 1, i, none⟩ = false) ∧
      wr.cell? ⟨w.heap.size, 0, none⟩ = some (.int .i64 0) ∧ wr.cell? ⟨w.heap.size, 1, none⟩ = some (.int .i64 0) ∧ wr.cell? ⟨w.heap.size, 2, none⟩ = some (.int .i64 0) ∧ wr.cell? ⟨w.heap.size, 3, none⟩ = some (.int .i64 0) ∧
      (∀ i, wr.frozen? ⟨w.heap.size, i, none⟩ = false) ∧ Below w.heap.size w wr ∧ w.heap.size + 1 < wr.heap.size) (fun i wr => n - (intOf i).toNat)
  case atStart => exact ⟨1, by omega, by omega, rfl, x.a, x.b, x.c, x.d, HX0.out, HR.out.symm, by go_cell, by go_cell, by go_cell, by go_cell, (by intro i; first | (simp; done) | (go_simp; done)), by go_cell, by go_cell, by go_cell, by go_cell, (by intro i; first | (simp; done) | (go_simp; done)), (by repeat' (first | (with_reducible exact Below.refl _ _) | (with_reducible assumption) | (with_reducible refine below_drewN ?_ _) | (with_reducible refine Below.drew ?_) | (with_reducible refine Below.alloc ?_ ?_ _) | (with_reducible refine Below.setCell ?_ ?_ _) | (with_reducible refine Below.trans ?_ (Below.mono (by with_reducible assumption) ?_)) | go_size | (dsimp only; omega))), by simp⟩
  case round =>
    obtain ⟨k, hk1, hk, rfl, p, q, r, s, HM, HP, c0, c1, c2, c3, fg, d0, d1, d2, d3, fw, hB, hg⟩ := hrel
    have hw : w.heap.size < wr.heap.size := by omega
    by_cases hlt : k < n
    · obtain ⟨y, hx⟩ : ∃ y, (x :: l)[k]? = some y := ⟨_, List.getElem?_eq_getElem (by simp; rw [← HL.out] at hlt; omega)⟩
      obtain ⟨x0, x1, x2, x3⟩ := HC.out k y hx
      rw [← hB.cell (p := ⟨b, _, none⟩) hbb] at x0 x1 x2 x3
      have hk0 : (0 : Int) ≤ (k : Int) := by omega
      have hkn : (k : Int) < (n : Int) := by omega
      obtain ⟨m0, m1, m2, m3⟩ := M4.ent_iff.mp HM.out
      obtain ⟨y0, y1, y2, y3⟩ := M4.ent_iff.mp (HE.out y (List.mem_of_getElem? hx))
      have HX := Lib.hid hx
      clear hx
      cases he : M4.ent (M4.mul ⟨p, q, r, s⟩ y)
      · have hno := prodL_no HX.out HP.out he
        have hif : (if (ent (p * y.a + q * y.c) && ent (p * y.b + q * y.d) && ent (r * y.a + s * y.c) && ent (r * y.b + s * y.d)) = true then (.tuple #[.agg #[.int .i64 (p * y.a + q * y.c), .int .i64 (p * y.b + q * y.d), .int .i64 (r * y.a + s * y.c), .int .i64 (r * y.b + s * y.d)], .bool true] : Value) else .tuple #[.agg #[.int .i64 0, .int .i64 0, .int .i64 0, .int .i64 0], .bool false]) = .tuple #[.agg #[.int .i64 0, .int .i64 0, .int .i64 0, .int .i64 0], .bool false] := if_neg (by have h : (ent (p * y.a + q * y.c) && ent (p * y.b + q * y.d) && ent (r * y.a + s * y.c) && ent (r * y.b + s * y.d)) = false := he; rw [h]; simp)
        have HNO := Lib.hid hno
        have HIF := Lib.hid hif
        clear hno he hif
        go_wp2_with fail
        go_region_held3 (fun w' => Below w.heap.size w w' ∧ w.heap.size < w'.heap.size ∧ w.heap.size + 1 < w'.heap.size ∧ w'.cell? ⟨w.heap.size + 1, 0, none⟩ = some (.int .i64 p) ∧ w'.cell? ⟨w.heap.size + 1, 1, none⟩ = some (.int .i64 q) ∧ w'.cell? ⟨w.heap.size + 1, 2, none⟩ = some (.int .i64 r) ∧ w'.cell? ⟨w.heap.size + 1, 3, none⟩ = some (.int .i64 s) ∧ w'.cell? ⟨b, off + k * 4, none⟩ = some (.int .i64 y.a) ∧ w'.cell? ⟨b, off + k * 4 + 1, none⟩ = some (.int .i64 y.b) ∧ w'.cell? ⟨b, off + k * 4 + 2, none⟩ = some (.int .i64 y.c) ∧ w'.cell? ⟨b, off + k * 4 + 3, none⟩ = some (.int .i64 y.d)) (((try go_split_ands); (try (refine ⟨?_, ?_, ?_, ?_, ?_, ?_, ?_, ?_, ?_, ?_, ?_⟩)) <;> first | (with_reducible assumption) | (with_reducible exact keep_drew (by with_reducible assumption)) | (with_reducible exact held_cell hb (by with_reducible assumption)) | (with_reducible exact held_size hb (by with_reducible assumption)) | (with_reducible exact keep_new (by with_reducible assumption)) | (with_reducible exact keep_alloc (by with_reducible assumption) (by dsimp only; omega)) | (with_reducible exact keep_drew (keep_new (by with_reducible assumption))) | (with_reducible exact keep_drew (held_cell hb (by with_reducible assumption))) | ((with_reducible refine keep_set ?_ (by dsimp only; omega)); (repeat (with_reducible refine keep_set ?_ (by dsimp only; omega))); first | (with_reducible assumption) | (with_reducible exact held_cell hb (by with_reducible assumption))) | ((repeat' (first | (with_reducible exact Below.refl _ _) | (with_reducible assumption) | (with_reducible refine below_drewN ?_ _) | (with_reducible refine Below.drew ?_) | (with_reducible refine Below.alloc ?_ ?_ _) | (with_reducible refine Below.setCell ?_ ?_ _) | (with_reducible refine Below.trans ?_ (Below.mono (by with_reducible assumption) ?_)) | go_size | (dsimp only; omega))); done) | (go_size; done) | (with_reducible exact held_cell (by with_reducible assumption) (by with_reducible assumption)) | (with_reducible exact held_size (by with_reducible assumption) (by with_reducible assumption)) | (go_keep; done))) (first | (go_at_call 109; refine (l01Times_c _ _ _ _ _ _ _ _ _ m0 m1 m2 m3 y0 y1 y2 y3).mono ?_; rintro e w2 ⟨rfl, hb⟩; rw [HIF.out]; have zzhb := hb.size; (try simp at zzhb); have zhb_0 : w.heap.size < w2.heap.size := (by omega); have kchb_0 : ∀ o, w2.cell? ⟨w.heap.size, o, none⟩ = _ := fun o => hb.cell (p := ⟨w.heap.size, o, none⟩) (by go_size); have kfhb_0 : ∀ o, w2.frozen? ⟨w.heap.size, o, none⟩ = _ := fun o => hb.frozen (p := ⟨w.heap.size, o, none⟩) (by go_size); have zhb_1 : w.heap.size + 1 < w2.heap.size := (by omega); have kchb_1 : ∀ o, w2.cell? ⟨w.heap.size + 1, o, none⟩ = _ := fun o => hb.cell (p := ⟨w.heap.size + 1, o, none⟩) (by go_size); have kfhb_1 : ∀ o, w2.frozen? ⟨w.heap.size + 1, o, none⟩ = _ := fun o => hb.frozen (p := ⟨w.heap.size + 1, o, none⟩) (by go_size); clear zzhb; have kk := fun (b o : Nat) (h : b < _) => hb.cell (p := ⟨b, o, none⟩) h; have ff := fun (b o : Nat) (h : b < _) => hb.frozen (p := ⟨b, o, none⟩) h; have zz := hb.size; (try simp only [World.size_alloc, World.size_drew] at zz); (try have zq : wr.heap.size < w2.heap.size := (by omega))))
        all_goals go_split_ands
        all_goals go_wp2
        all_goals exact bodyPost_ret (v := prodV none) (by simp [results, Tryz.results79, go_sem, prodV, kchb_0, kfhb_0, zhb_0, d0, d1, d2, d3, hw, fw]) rfl ⟨by rw [HNO.out], (by repeat' (first | (with_reducible exact Below.refl _ _) | (with_reducible assumption) | (with_reducible refine below_drewN ?_ _) | (with_reducible refine Below.drew ?_) | (with_reducible refine Below.alloc ?_ ?_ _) | (with_reducible refine Below.setCell ?_ ?_ _) | (with_reducible refine Below.trans ?_ (Below.mono (by with_reducible assumption) ?_)) | go_size | (dsimp only; omega)))⟩
      · have hgo := prodL_go HX.out HP.out he
        have hif : (if (ent (p * y.a + q * y.c) && ent (p * y.b + q * y.d) && ent (r * y.a + s * y.c) && ent (r * y.b + s * y.d)) = true then (.tuple #[.agg #[.int .i64 (p * y.a + q * y.c), .int .i64 (p * y.b + q * y.d), .int .i64 (r * y.a + s * y.c), .int .i64 (r * y.b + s * y.d)], .bool true] : Value) else .tuple #[.agg #[.int .i64 0, .int .i64 0, .int .i64 0, .int .i64 0], .bool false]) = .tuple #[.agg #[.int .i64 (p * y.a + q * y.c), .int .i64 (p * y.b + q * y.d), .int .i64 (r * y.a + s * y.c), .int .i64 (r * y.b + s * y.d)], .bool true] := if_pos he
        have HGO := Lib.hid hgo
        have HE2 := Lib.hid he
        have HIF := Lib.hid hif
        clear hgo he hif
        go_wp2_with fail
        go_region_held3 (fun w' => Below w.heap.size w w' ∧ w.heap.size < w'.heap.size ∧ w.heap.size + 1 < w'.heap.size ∧ w'.cell? ⟨w.heap.size + 1, 0, none⟩ = some (.int .i64 p) ∧ w'.cell? ⟨w.heap.size + 1, 1, none⟩ = some (.int .i64 q) ∧ w'.cell? ⟨w.heap.size + 1, 2, none⟩ = some (.int .i64 r) ∧ w'.cell? ⟨w.heap.size + 1, 3, none⟩ = some (.int .i64 s) ∧ w'.cell? ⟨b, off + k * 4, none⟩ = some (.int .i64 y.a) ∧ w'.cell? ⟨b, off + k * 4 + 1, none⟩ = some (.int .i64 y.b) ∧ w'.cell? ⟨b, off + k * 4 + 2, none⟩ = some (.int .i64 y.c) ∧ w'.cell? ⟨b, off + k * 4 + 3, none⟩ = some (.int .i64 y.d)) (((try go_split_ands); (try (refine ⟨?_, ?_, ?_, ?_, ?_, ?_, ?_, ?_, ?_, ?_, ?_⟩)) <;> first | (with_reducible assumption) | (with_reducible exact keep_drew (by with_reducible assumption)) | (with_reducible exact held_cell hb (by with_reducible assumption)) | (with_reducible exact held_size hb (by with_reducible assumption)) | (with_reducible exact keep_new (by with_reducible assumption)) | (with_reducible exact keep_alloc (by with_reducible assumption) (by dsimp only; omega)) | (with_reducible exact keep_drew (keep_new (by with_reducible assumption))) | (with_reducible exact keep_drew (held_cell hb (by with_reducible assumption))) | ((with_reducible refine keep_set ?_ (by dsimp only; omega)); (repeat (with_reducible refine keep_set ?_ (by dsimp only; omega))); first | (with_reducible assumption) | (with_reducible exact held_cell hb (by with_reducible assumption))) | ((repeat' (first | (with_reducible exact Below.refl _ _) | (with_reducible assumption) | (with_reducible refine below_drewN ?_ _) | (with_reducible refine Below.drew ?_) | (with_reducible refine Below.alloc ?_ ?_ _) | (with_reducible refine Below.setCell ?_ ?_ _) | (with_reducible refine Below.trans ?_ (Below.mono (by with_reducible assumption) ?_)) | go_size | (dsimp only; omega))); done) | (go_size; done) | (with_reducible exact held_cell (by with_reducible assumption) (by with_reducible assumption)) | (with_reducible exact held_size (by with_reducible assumption) (by with_reducible assumption)) | (go_keep; done))) (first | (go_at_call 109; refine (l01Times_c _ _ _ _ _ _ _ _ _ m0 m1 m2 m3 y0 y1 y2 y3).mono ?_; rintro e w2 ⟨rfl, hb⟩; rw [HIF.out]; have zzhb := hb.size; (try simp at zzhb); have zhb_0 : w.heap.size < w2.heap.size := (by omega); have kchb_0 : ∀ o, w2.cell? ⟨w.heap.size, o, none⟩ = _ := fun o => hb.cell (p := ⟨w.heap.size, o, none⟩) (by go_size); have kfhb_0 : ∀ o, w2.frozen? ⟨w.heap.size, o, none⟩ = _ := fun o => hb.frozen (p := ⟨w.heap.size, o, none⟩) (by go_size); have zhb_1 : w.heap.size + 1 < w2.heap.size := (by omega); have kchb_1 : ∀ o, w2.cell? ⟨w.heap.size + 1, o, none⟩ = _ := fun o => hb.cell (p := ⟨w.heap.size + 1, o, none⟩) (by go_size); have kfhb_1 : ∀ o, w2.frozen? ⟨w.heap.size + 1, o, none⟩ = _ := fun o => hb.frozen (p := ⟨w.heap.size + 1, o, none⟩) (by go_size); clear zzhb; have kk := fun (b o : Nat) (h : b < _) => hb.cell (p := ⟨b, o, none⟩) h; have ff := fun (b o : Nat) (h : b < _) => hb.frozen (p := ⟨b, o, none⟩) h; have zz := hb.size; (try simp only [World.size_alloc, World.size_drew] at zz); (try have zq : wr.heap.size < w2.heap.size := (by omega))))
        all_goals go_split_ands
        all_goals go_wp2
        all_goals go_roundw
        case rel =>
          refine ⟨k + 1, by omega, by omega, by go_num, _, _, _, _, HE2.out, HGO.out, ?_, ?_, ?_, ?_, ?_, ?_, ?_, ?_, ?_, ?_, ?_, ?_⟩
          all_goals first | (go_simp; done) | (intro i; go_simp; done) | exact (by repeat' (first | (with_reducible exact Below.refl _ _) | (with_reducible assumption) | (with_reducible refine below_drewN ?_ _) | (with_reducible refine Below.drew ?_) | (with_reducible refine Below.alloc ?_ ?_ _) | (with_reducible refine Below.setCell ?_ ?_ _) | (with_reducible refine Below.trans ?_ (Below.mono (by with_reducible assumption) ?_)) | go_size | (dsimp only; omega))) | go_size
        case measure => simp [intOf]; omega
        case rel =>
          refine ⟨k + 1, by omega, by omega, by go_num, _, _, _, _, HE2.out, HGO.out, ?_, ?_, ?_, ?_, ?_, ?_, ?_, ?_, ?_, ?_, ?_, ?_⟩
          all_goals first | (go_simp; done) | (intro i; go_simp; done) | exact (by repeat' (first | (with_reducible exact Below.refl _ _) | (with_reducible assumption) | (with_reducible refine below_drewN ?_ _) | (with_reducible refine Below.drew ?_) | (with_reducible refine Below.alloc ?_ ?_ _) | (with_reducible refine Below.setCell ?_ ?_ _) | (with_reducible refine Below.trans ?_ (Below.mono (by with_reducible assumption) ?_)) | go_size | (dsimp only; omega))) | go_size
        case measure => simp [intOf]; omega
    · have hend := prodL_end (by simp; rw [← HL.out] at hlt; omega) HP.out
      have HEND := Lib.hid hend
      clear hend
      go_wp2
      exact bodyPost_ret (v := prodV (some ⟨p, q, r, s⟩)) (by simp [results, Tryz.results79, go_sem, prodV, M4.v, c0, c1, c2, c3, d0, d1, d2, d3, hw, fw, fg]) rfl ⟨by rw [HEND.out], (by repeat' (first | (with_reducible exact Below.refl _ _) | (with_reducible assumption) | (with_reducible refine below_drewN ?_ _) | (with_reducible refine Below.drew ?_) | (with_reducible refine Below.alloc ?_ ?_ _) | (with_reducible refine Below.setCell ?_ ?_ _) | (with_reducible refine Below.trans ?_ (Below.mono (by with_reducible assumption) ?_)) | go_size | (dsimp only; omega)))⟩
end Go.Proofs.YtlkhhpckgcdeeaaGreatDoor
