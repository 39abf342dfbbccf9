/- Products of matrices. -/
import Derived.Test.YtlkhhpckgcdeeaaGreatDoorB
import Derived.Test.YtlkhhpckgcdeeaaGreatDoorW
namespace Go.Proofs.YtlkhhpckgcdeeaaGreatDoor
open Go.RowKit
set_option linter.unusedVariables false
set_option linter.unusedSimpArgs false
attribute [local go_sem] run_min_int4 run_max_int4
attribute [local go_sem] run_equalIn_M
/-- four numbers -/
structure M4 where
  a : Int
  b : Int
  c : Int
  d : Int
def M4.v (m : M4) : Value := .agg #[.int .i64 m.a, .int .i64 m.b, .int .i64 m.c, .int .i64 m.d]
def M4.ent (m : M4) : Bool := Go.Proofs.YtlkhhpckgcdeeaaGreatDoor.ent m.a && Go.Proofs.YtlkhhpckgcdeeaaGreatDoor.ent m.b && Go.Proofs.YtlkhhpckgcdeeaaGreatDoor.ent m.c && Go.Proofs.YtlkhhpckgcdeeaaGreatDoor.ent m.d
def M4.mul (m n : M4) : M4 := ⟨m.a * n.a + m.b * n.c, m.a * n.b + m.b * n.d, m.c * n.a + m.d * n.c, m.c * n.b + m.d * n.d⟩
/-- the product of matrices, taken from the left, while its numbers are those of a matrix -/
def prodL : M4 → List M4 → Option M4
  | m, [] => some m
  | m, n :: l => if (m.mul n).ent then prodL (m.mul n) l else none
theorem times_c (p q r s p' q' r' s' : Int) (w : World) (h1 : ent p = true) (h2 : ent q = true) (h3 : ent r = true) (h4 : ent s = true) (h5 : ent p' = true) (h6 : ent q' = true) (h7 : ent r' = true) (h8 : ent s' = true) :
    Calls Tryz.prog 129 #[.agg #[.int .i64 p, .int .i64 q, .int .i64 r, .int .i64 s], .agg #[.int .i64 p', .int .i64 q', .int .i64 r', .int .i64 s']] w fun e w' => e = .returned (.agg #[.int .i64 (p * p' + q * r'), .int .i64 (p * q' + q * s'), .int .i64 (r * p' + s * r'), .int .i64 (r * q' + s * s')]) ∧ Below w.heap.size w w' := by
  obtain ⟨a0, a1⟩ := ent_mul h1 h5
  obtain ⟨b0, b1⟩ := ent_mul h2 h7
  obtain ⟨c0, c1⟩ := ent_mul h1 h6
  obtain ⟨d0, d1⟩ := ent_mul h2 h8
  obtain ⟨e0, e1⟩ := ent_mul h3 h5
  obtain ⟨f0, f1⟩ := ent_mul h4 h7
  obtain ⟨g0, g1⟩ := ent_mul h3 h6
  obtain ⟨i0, i1⟩ := ent_mul h4 h8
  clear h1 h2 h3 h4 h5 h6 h7 h8
  go_enter Tryz.func129, Tryz.ntmps129
  go_wp2
  go_returns
  exact ⟨rfl, (by repeat' (first | (with_reducible exact Below.refl _ _) | (with_reducible assumption) | (with_reducible refine below_drewN ?_ _) | (with_reducible refine Below.drew ?_) | (with_reducible refine Below.alloc ?_ ?_ _) | (with_reducible refine Below.setCell ?_ ?_ _) | (with_reducible refine Below.trans ?_ (Below.mono (by with_reducible assumption) ?_)) | go_size | (dsimp only; omega)))⟩
theorem limited_no (p q r s : Int) (w : World) (h : (ent p && ent q && ent r && ent s) = false) :
    Calls Tryz.prog 128 #[.agg #[.int .i64 p, .int .i64 q, .int .i64 r, .int .i64 s]] w fun e w' => e = .returned (.tuple #[.agg #[.int .i64 0, .int .i64 0, .int .i64 0, .int .i64 0], .int .i64 3]) ∧ Below w.heap.size w w' := by
  have H := Lib.hid h
  clear h
  go_enter Tryz.func128, Tryz.ntmps128
  go_wp2_with fail
  refine (areEntries_4 _ p q r s _ (by go_cell) (by go_cell) (by go_cell) (by go_cell)).mono ?_
  rintro e w' ⟨rfl, rfl⟩
  rw [H.out]
  go_wp2
  go_returns
  exact ⟨rfl, (by repeat' (first | (with_reducible exact Below.refl _ _) | (with_reducible assumption) | (with_reducible refine below_drewN ?_ _) | (with_reducible refine Below.drew ?_) | (with_reducible refine Below.alloc ?_ ?_ _) | (with_reducible refine Below.setCell ?_ ?_ _) | (with_reducible refine Below.trans ?_ (Below.mono (by with_reducible assumption) ?_)) | go_size | (dsimp only; omega)))⟩
theorem limited_yes (p q r s : Int) (w : World) (h : (ent p && ent q && ent r && ent s) = true) :
    Calls Tryz.prog 128 #[.agg #[.int .i64 p, .int .i64 q, .int .i64 r, .int .i64 s]] w fun e w' => e = .returned (.tuple #[.agg #[.int .i64 p, .int .i64 q, .int .i64 r, .int .i64 s], .int .i64 0]) ∧ Below w.heap.size w w' := by
  have H := Lib.hid h
  clear h
  go_enter Tryz.func128, Tryz.ntmps128
  go_wp2_with fail
  refine (areEntries_4 _ p q r s _ (by go_cell) (by go_cell) (by go_cell) (by go_cell)).mono ?_
  rintro e w' ⟨rfl, rfl⟩
  rw [H.out]
  go_wp2
  go_returns
  exact ⟨rfl, (by repeat' (first | (with_reducible exact Below.refl _ _) | (with_reducible assumption) | (with_reducible refine below_drewN ?_ _) | (with_reducible refine Below.drew ?_) | (with_reducible refine Below.alloc ?_ ?_ _) | (with_reducible refine Below.setCell ?_ ?_ _) | (with_reducible refine Below.trans ?_ (Below.mono (by with_reducible assumption) ?_)) | go_size | (dsimp only; omega)))⟩
set_option maxHeartbeats 1000000 in
theorem l01Times_c (p q r s p' q' r' s' : Int) (w : World) (h1 : ent p = true) (h2 : ent q = true) (h3 : ent r = true) (h4 : ent s = true) (h5 : ent p' = true) (h6 : ent q' = true) (h7 : ent r' = true) (h8 : ent s' = true) :
    Calls Tryz.prog 109 #[.agg #[.int .i64 p, .int .i64 q, .int .i64 r, .int .i64 s], .agg #[.int .i64 p', .int .i64 q', .int .i64 r', .int .i64 s']] w fun e w' => e = .returned (if (ent (p * p' + q * r') && ent (p * q' + q * s') && ent (r * p' + s * r') && ent (r * q' + s * s')) = true then .tuple #[.agg #[.int .i64 (p * p' + q * r'), .int .i64 (p * q' + q * s'), .int .i64 (r * p' + s * r'), .int .i64 (r * q' + s * s')], .bool true] else .tuple #[.agg #[.int .i64 0, .int .i64 0, .int .i64 0, .int .i64 0], .bool false]) ∧ Below w.heap.size w w' := by
  obtain ⟨a0, a1⟩ := ent_mul h1 h5
  obtain ⟨b0, b1⟩ := ent_mul h2 h7
  obtain ⟨c0, c1⟩ := ent_mul h1 h6
  obtain ⟨d0, d1⟩ := ent_mul h2 h8
  obtain ⟨e0, e1⟩ := ent_mul h3 h5
  obtain ⟨f0, f1⟩ := ent_mul h4 h7
  obtain ⟨g0, g1⟩ := ent_mul h3 h6
  obtain ⟨i0, i1⟩ := ent_mul h4 h8
  clear h1 h2 h3 h4 h5 h6 h7 h8
  cases k1 : ent (p * p' + q * r')
  · rw [if_neg (by simp)]
    go_enter Tryz.func109, Tryz.ntmps109
    go_wp2_with (go_at_call 90; refine (l01Entry_c _ _).mono ?_; rintro e w1 ⟨rfl, rfl⟩)
    go_returns
    exact ⟨rfl, (by repeat' (first | (with_reducible exact Below.refl _ _) | (with_reducible assumption) | (with_reducible refine below_drewN ?_ _) | (with_reducible refine Below.drew ?_) | (with_reducible refine Below.alloc ?_ ?_ _) | (with_reducible refine Below.setCell ?_ ?_ _) | (with_reducible refine Below.trans ?_ (Below.mono (by with_reducible assumption) ?_)) | go_size | (dsimp only; omega)))⟩
  cases k2 : ent (p * q' + q * s')
  · rw [if_neg (by simp)]
    go_enter Tryz.func109, Tryz.ntmps109
    go_wp2_with (go_at_call 90; refine (l01Entry_c _ _).mono ?_; rintro e w1 ⟨rfl, rfl⟩)
    go_returns
    exact ⟨rfl, (by repeat' (first | (with_reducible exact Below.refl _ _) | (with_reducible assumption) | (with_reducible refine below_drewN ?_ _) | (with_reducible refine Below.drew ?_) | (with_reducible refine Below.alloc ?_ ?_ _) | (with_reducible refine Below.setCell ?_ ?_ _) | (with_reducible refine Below.trans ?_ (Below.mono (by with_reducible assumption) ?_)) | go_size | (dsimp only; omega)))⟩
  cases k3 : ent (r * p' + s * r')
  · rw [if_neg (by simp)]
    go_enter Tryz.func109, Tryz.ntmps109
    go_wp2_with (go_at_call 90; refine (l01Entry_c _ _).mono ?_; rintro e w1 ⟨rfl, rfl⟩)
    go_returns
    exact ⟨rfl, (by repeat' (first | (with_reducible exact Below.refl _ _) | (with_reducible assumption) | (with_reducible refine below_drewN ?_ _) | (with_reducible refine Below.drew ?_) | (with_reducible refine Below.alloc ?_ ?_ _) | (with_reducible refine Below.setCell ?_ ?_ _) | (with_reducible refine Below.trans ?_ (Below.mono (by with_reducible assumption) ?_)) | go_size | (dsimp only; omega)))⟩
  cases k4 : ent (r * q' + s * s')
  · rw [if_neg (by simp)]
    go_enter Tryz.func109, Tryz.ntmps109
    go_wp2_with (go_at_call 90; refine (l01Entry_c _ _).mono ?_; rintro e w1 ⟨rfl, rfl⟩)
    go_returns
    exact ⟨rfl, (by repeat' (first | (with_reducible exact Below.refl _ _) | (with_reducible assumption) | (with_reducible refine below_drewN ?_ _) | (with_reducible refine Below.drew ?_) | (with_reducible refine Below.alloc ?_ ?_ _) | (with_reducible refine Below.setCell ?_ ?_ _) | (with_reducible refine Below.trans ?_ (Below.mono (by with_reducible assumption) ?_)) | go_size | (dsimp only; omega)))⟩
  · rw [if_pos (by simp)]
    go_enter Tryz.func109, Tryz.ntmps109
    go_wp2_with (go_at_call 90; refine (l01Entry_c _ _).mono ?_; rintro e w1 ⟨rfl, rfl⟩)
    go_returns
    exact ⟨rfl, (by repeat' (first | (with_reducible exact Below.refl _ _) | (with_reducible assumption) | (with_reducible refine below_drewN ?_ _) | (with_reducible refine Below.drew ?_) | (with_reducible refine Below.alloc ?_ ?_ _) | (with_reducible refine Below.setCell ?_ ?_ _) | (with_reducible refine Below.trans ?_ (Below.mono (by with_reducible assumption) ?_)) | go_size | (dsimp only; omega)))⟩
def M4.I : M4 := ⟨1, 0, 0, 1⟩
/-- what a product answers -/
def prodV : Option M4 → Value
  | some m => .tuple #[m.v, .int .i64 0]
  | none => .tuple #[.agg #[.int .i64 0, .int .i64 0, .int .i64 0, .int .i64 0], .int .i64 3]
theorem M4.ent_iff {m : M4} : m.ent = true ↔ Go.Proofs.YtlkhhpckgcdeeaaGreatDoor.ent m.a = true ∧ Go.Proofs.YtlkhhpckgcdeeaaGreatDoor.ent m.b = true ∧ Go.Proofs.YtlkhhpckgcdeeaaGreatDoor.ent m.c = true ∧ Go.Proofs.YtlkhhpckgcdeeaaGreatDoor.ent m.d = true := by
  unfold M4.ent; simp only [Bool.and_eq_true, and_assoc]
/-- a slice of matrices in memory -/
def RowM (w : World) (b off : Nat) (ms : List M4) : Prop := ∀ k m, ms[k]? = some m →
  w.cell? ⟨b, off + k * 4, none⟩ = some (.int .i64 m.a) ∧ w.cell? ⟨b, off + k * 4 + 1, none⟩ = some (.int .i64 m.b) ∧ w.cell? ⟨b, off + k * 4 + 2, none⟩ = some (.int .i64 m.c) ∧ w.cell? ⟨b, off + k * 4 + 3, none⟩ = some (.int .i64 m.d)
theorem prodL_go {m x : M4} {ms : List M4} {k : Nat} {r : Option M4} (hk : ms[k]? = some x) (h : prodL m (ms.drop k) = r) (he : (m.mul x).ent = true) : prodL (m.mul x) (ms.drop (k + 1)) = r := by
  obtain ⟨hlt, hx⟩ := List.getElem?_eq_some_iff.mp hk
  rw [List.drop_eq_getElem_cons hlt, hx, prodL, if_pos he] at h
  exact h
theorem prodL_no {m x : M4} {ms : List M4} {k : Nat} {r : Option M4} (hk : ms[k]? = some x) (h : prodL m (ms.drop k) = r) (he : (m.mul x).ent = false) : r = none := by
  obtain ⟨hlt, hx⟩ := List.getElem?_eq_some_iff.mp hk
  rw [List.drop_eq_getElem_cons hlt, hx, prodL, if_neg (by simp [he])] at h
  exact h.symm
theorem prodL_end {m : M4} {ms : List M4} {k : Nat} {r : Option M4} (hk : ms.length ≤ k) (h : prodL m (ms.drop k) = r) : r = some m := by
  rw [List.drop_of_length_le hk] at h
  exact h.symm
set_option maxHeartbeats 4000000 in
theorem product_c (b off n cap : Nat) (ms : List M4) (w : World) (hl : ms.length = n) (hn : n ≤ 1000000000) (hbb : b < w.heap.size) (hc : RowM w b off ms) (he : ∀ m ∈ ms, m.ent = true) :
    Calls Tryz.prog 103 #[.slice (some ⟨b, off, none⟩) n cap] w fun e w' => e = .returned (prodV (prodL M4.I ms)) ∧ Below w.heap.size w w' := by
  have HL := Lib.hid hl
  have HC := Lib.hid hc
  have HE := Lib.hid he
  clear hl hc he
  go_enter Tryz.func103, Tryz.ntmps103
  go_wp2_with fail
  refine (identity_c _).mono ?_
  rintro e w1 ⟨rfl, b1⟩
  have zzb1 := b1.size; (try simp at zzb1); have zb1_0 : w.heap.size < w1.heap.size := (by omega); have kcb1_0 : ∀ o, w1.cell? ⟨w.heap.size, o, none⟩ = _ := fun o => b1.cell (p := ⟨w.heap.size, o, none⟩) (by go_size); have kfb1_0 : ∀ o, w1.frozen? ⟨w.heap.size, o, none⟩ = _ := fun o => b1.frozen (p := ⟨w.heap.size, o, none⟩) (by go_size); clear zzb1
  go_wp2
  go_loopw [12] (fun i wr => ∃ k : Nat, k ≤ n ∧ i = .int .i64 k ∧ ∃ p q r s : Int, Hid (M4.ent ⟨p, q, r, s⟩ = true) ∧ Hid (prodL ⟨p, q, r, s⟩ (ms.drop k) = prodL M4.I ms) ∧
      wr.cell? ⟨w1.heap.size, 0, none⟩ = some (.int .i64 p) ∧ wr.cell? ⟨w1.heap.size, 1, none⟩ = some (.int .i64 q) ∧ wr.cell? ⟨w1.heap.size, 2, none⟩ = some (.int .i64 r) ∧ wr.cell? ⟨w1.heap.size, 3, none⟩ = some (.int .i64 s) ∧
      (∀ i, wr.frozen? ⟨w1.heap.size, i, none⟩ = false) ∧
      wr.cell? ⟨w.heap.size, 0, none⟩ = some (.int .i64 0) ∧ wr.cell? ⟨w.heap.size, 1, none⟩ = some (.int .i64 0) ∧ wr.cell? ⟨w.heap.size, 2, none⟩ = some (.int .i64 0) ∧ wr.cell? ⟨w.heap.size, 3, none⟩ = some (.int .i64 0) ∧
      (∀ i, wr.frozen? ⟨w.heap.size, i, none⟩ = false) ∧ Below w.heap.size w wr ∧ w1.heap.size < wr.heap.size) (fun i wr => n - (intOf i).toNat)
  case atStart => exact ⟨0, Nat.zero_le _, rfl, 1, 0, 0, 1, (by decide : M4.ent ⟨1, 0, 0, 1⟩ = true), rfl, by go_cell, by go_cell, by go_cell, by go_cell, (by intro i; first | (simp; done) | (go_simp; done)), by go_cell, by go_cell, by go_cell, by go_cell, (by intro i; first | (simp [kfb1_0]; done) | (go_simp; done)), (by repeat' (first | (with_reducible exact Below.refl _ _) | (with_reducible assumption) | (with_reducible refine below_drewN ?_ _) | (with_reducible refine Below.drew ?_) | (with_reducible refine Below.alloc ?_ ?_ _) | (with_reducible refine Below.setCell ?_ ?_ _) | (with_reducible refine Below.trans ?_ (Below.mono (by with_reducible assumption) ?_)) | go_size | (dsimp only; omega))), by simp⟩
  case round =>
    obtain ⟨k, hk, rfl, p, q, r, s, HM, HP, c0, c1, c2, c3, fg, d0, d1, d2, d3, fw, hB, hg⟩ := hrel
    have hw : w.heap.size < wr.heap.size := by omega
    have hne : ¬ w.heap.size = w1.heap.size := by omega
    have hne' : ¬ w1.heap.size = w.heap.size := by omega
    by_cases hlt : k < n
    · obtain ⟨x, hx⟩ : ∃ x, ms[k]? = some x := ⟨_, List.getElem?_eq_getElem (by rw [HL.out]; exact hlt)⟩
      obtain ⟨x0, x1, x2, x3⟩ := HC.out k x hx
      rw [← hB.cell (p := ⟨b, _, none⟩) hbb] at x0 x1 x2 x3
      obtain ⟨m0, m1, m2, m3⟩ := M4.ent_iff.mp HM.out
      obtain ⟨y0, y1, y2, y3⟩ := M4.ent_iff.mp (HE.out x (List.mem_of_getElem? hx))
      have HX := Lib.hid hx
      clear hx
      cases he : M4.ent (M4.mul ⟨p, q, r, s⟩ x)
      · have hno := prodL_no HX.out HP.out he
        have HNO := Lib.hid hno
        have HE2 := Lib.hid he
        clear hno he
        go_wp2_with fail
        refine (times_c _ _ _ _ _ _ _ _ _ m0 m1 m2 m3 y0 y1 y2 y3).mono ?_
        rintro e w2 ⟨rfl, b2⟩
        have zzb2 := b2.size; (try simp at zzb2); have zb2_w0 : w.heap.size < w2.heap.size := (by omega); have kcb2_w0 : ∀ o, w2.cell? ⟨w.heap.size, o, none⟩ = _ := fun o => b2.cell (p := ⟨w.heap.size, o, none⟩) (by go_size); have kfb2_w0 : ∀ o, w2.frozen? ⟨w.heap.size, o, none⟩ = _ := fun o => b2.frozen (p := ⟨w.heap.size, o, none⟩) (by go_size); have zb2_w10 : w1.heap.size < w2.heap.size := (by omega); have kcb2_w10 : ∀ o, w2.cell? ⟨w1.heap.size, o, none⟩ = _ := fun o => b2.cell (p := ⟨w1.heap.size, o, none⟩) (by go_size); have kfb2_w10 : ∀ o, w2.frozen? ⟨w1.heap.size, o, none⟩ = _ := fun o => b2.frozen (p := ⟨w1.heap.size, o, none⟩) (by go_size); clear zzb2
        go_wp2_with fail
        refine (limited_no _ _ _ _ _ HE2.out).mono ?_
        rintro e w3 ⟨rfl, b3⟩
        have zzb3 := b3.size; (try simp at zzb3); have zb3_w0 : w.heap.size < w3.heap.size := (by omega); have kcb3_w0 : ∀ o, w3.cell? ⟨w.heap.size, o, none⟩ = _ := fun o => b3.cell (p := ⟨w.heap.size, o, none⟩) (by go_size); have kfb3_w0 : ∀ o, w3.frozen? ⟨w.heap.size, o, none⟩ = _ := fun o => b3.frozen (p := ⟨w.heap.size, o, none⟩) (by go_size); have zb3_w10 : w1.heap.size < w3.heap.size := (by omega); have kcb3_w10 : ∀ o, w3.cell? ⟨w1.heap.size, o, none⟩ = _ := fun o => b3.cell (p := ⟨w1.heap.size, o, none⟩) (by go_size); have kfb3_w10 : ∀ o, w3.frozen? ⟨w1.heap.size, o, none⟩ = _ := fun o => b3.frozen (p := ⟨w1.heap.size, o, none⟩) (by go_size); clear zzb3
        go_wp2
        exact bodyPost_ret (v := prodV none) (by simp [results, Tryz.results103, go_sem, prodV, kcb3_w0, kcb2_w0, d0, d1, d2, d3, zb3_w0, zb2_w0, hw, fw, hne, hne']) rfl ⟨by rw [HNO.out], (by repeat' (first | (with_reducible exact Below.refl _ _) | (with_reducible assumption) | (with_reducible refine below_drewN ?_ _) | (with_reducible refine Below.drew ?_) | (with_reducible refine Below.alloc ?_ ?_ _) | (with_reducible refine Below.setCell ?_ ?_ _) | (with_reducible refine Below.trans ?_ (Below.mono (by with_reducible assumption) ?_)) | go_size | (dsimp only; omega)))⟩
      · have hgo := prodL_go HX.out HP.out he
        have HGO := Lib.hid hgo
        have HE2 := Lib.hid he
        clear hgo he
        go_wp2_with fail
        refine (times_c _ _ _ _ _ _ _ _ _ m0 m1 m2 m3 y0 y1 y2 y3).mono ?_
        rintro e w2 ⟨rfl, b2⟩
        have zzb2 := b2.size; (try simp at zzb2); have zb2_w0 : w.heap.size < w2.heap.size := (by omega); have kcb2_w0 : ∀ o, w2.cell? ⟨w.heap.size, o, none⟩ = _ := fun o => b2.cell (p := ⟨w.heap.size, o, none⟩) (by go_size); have kfb2_w0 : ∀ o, w2.frozen? ⟨w.heap.size, o, none⟩ = _ := fun o => b2.frozen (p := ⟨w.heap.size, o, none⟩) (by go_size); have zb2_w10 : w1.heap.size < w2.heap.size := (by omega); have kcb2_w10 : ∀ o, w2.cell? ⟨w1.heap.size, o, none⟩ = _ := fun o => b2.cell (p := ⟨w1.heap.size, o, none⟩) (by go_size); have kfb2_w10 : ∀ o, w2.frozen? ⟨w1.heap.size, o, none⟩ = _ := fun o => b2.frozen (p := ⟨w1.heap.size, o, none⟩) (by go_size); clear zzb2
        go_wp2_with fail
        refine (limited_yes _ _ _ _ _ HE2.out).mono ?_
        rintro e w3 ⟨rfl, b3⟩
        have zzb3 := b3.size; (try simp at zzb3); have zb3_w0 : w.heap.size < w3.heap.size := (by omega); have kcb3_w0 : ∀ o, w3.cell? ⟨w.heap.size, o, none⟩ = _ := fun o => b3.cell (p := ⟨w.heap.size, o, none⟩) (by go_size); have kfb3_w0 : ∀ o, w3.frozen? ⟨w.heap.size, o, none⟩ = _ := fun o => b3.frozen (p := ⟨w.heap.size, o, none⟩) (by go_size); have zb3_w10 : w1.heap.size < w3.heap.size := (by omega); have kcb3_w10 : ∀ o, w3.cell? ⟨w1.heap.size, o, none⟩ = _ := fun o => b3.cell (p := ⟨w1.heap.size, o, none⟩) (by go_size); have kfb3_w10 : ∀ o, w3.frozen? ⟨w1.heap.size, o, none⟩ = _ := fun o => b3.frozen (p := ⟨w1.heap.size, o, none⟩) (by go_size); clear zzb3
        go_wp2
        go_roundw
        case rel =>
          refine ⟨k + 1, by omega, by go_num, (M4.mul ⟨p, q, r, s⟩ x).a, (M4.mul ⟨p, q, r, s⟩ x).b, (M4.mul ⟨p, q, r, s⟩ x).c, (M4.mul ⟨p, q, r, s⟩ x).d, HE2.out, HGO.out, ?_, ?_, ?_, ?_, ?_, ?_, ?_, ?_, ?_, ?_, ?_, ?_⟩
          all_goals first | (go_simp; done) | (intro i; go_simp; done) | exact (by repeat' (first | (with_reducible exact Below.refl _ _) | (with_reducible assumption) | (with_reducible refine below_drewN ?_ _) | (with_reducible refine Below.drew ?_) | (with_reducible refine Below.alloc ?_ ?_ _) | (with_reducible refine Below.setCell ?_ ?_ _) | (with_reducible refine Below.trans ?_ (Below.mono (by with_reducible assumption) ?_)) | go_size | (dsimp only; omega))) | go_size
        case measure => simp [intOf]; omega
    · have hend := prodL_end (by rw [HL.out]; omega) HP.out
      have HEND := Lib.hid hend
      clear hend
      go_wp2
      exact bodyPost_ret (v := prodV (some ⟨p, q, r, s⟩)) (by simp [results, Tryz.results103, go_sem, prodV, M4.v, c0, c1, c2, c3, d0, d1, d2, d3, hw, fw, fg, hne, hne']) rfl ⟨by rw [HEND.out], (by repeat' (first | (with_reducible exact Below.refl _ _) | (with_reducible assumption) | (with_reducible refine below_drewN ?_ _) | (with_reducible refine Below.drew ?_) | (with_reducible refine Below.alloc ?_ ?_ _) | (with_reducible refine Below.setCell ?_ ?_ _) | (with_reducible refine Below.trans ?_ (Below.mono (by with_reducible assumption) ?_)) | go_size | (dsimp only; omega)))⟩
end Go.Proofs.YtlkhhpckgcdeeaaGreatDoor
