/- PowerOf of the reference; the law. -/
import Derived.Test.YtlkhhpckgcdeeaaGreatDoorPC
namespace Go.Proofs.YtlkhhpckgcdeeaaGreatDoor
open Go.RowKit
open Plain (P4 U V)
set_option linter.unusedVariables false
set_option linter.unusedSimpArgs false
theorem P4.m4_mul (x y : P4) : M4.mul ⟨x.a, x.b, x.c, x.d⟩ ⟨y.a, y.b, y.c, y.d⟩ = ⟨(x.mul y).a, (x.mul y).b, (x.mul y).c, (x.mul y).d⟩ := rfl
theorem P4.m4_ent {x : P4} : M4.ent ⟨x.a, x.b, x.c, x.d⟩ = true ↔ x.fit := fit_ent
theorem kind_small {p q r s : Int} (h : p * s - q * r = 1) (hk : kindOf p q r s < 2) : (P4.mk p q r s).pow 12 = P4.one ∧ (-1000000000 ≤ p ∧ p ≤ 1000000000 → -1000000000 ≤ q ∧ q ≤ 1000000000 → -1000000000 ≤ r ∧ r ≤ 1000000000 → -1000000000 ≤ s ∧ s ≤ 1000000000 → ∀ n, ((P4.mk p q r s).pow n).fit) := by
  by_cases hb : q = 0 ∧ r = 0
  · obtain ⟨rfl, rfl⟩ := hb
    have hu : (p = 1 ∧ s = 1) ∨ (p = -1 ∧ s = -1) := Plain.unit_cases (by omega)
    have hm : P4.mk p 0 0 s = ⟨1, 0, 0, 1⟩ ∨ P4.mk p 0 0 s = ⟨-1, 0, 0, -1⟩ := by rcases hu with ⟨rfl, rfl⟩ | ⟨rfl, rfl⟩ <;> simp
    refine ⟨Plain.pow_12_unit _ hm, fun _ _ _ _ n => ?_⟩
    have : ((P4.mk p 0 0 s).pow n) = ⟨1, 0, 0, 1⟩ ∨ ((P4.mk p 0 0 s).pow n) = ⟨-1, 0, 0, -1⟩ := by
      induction n with
      | zero => exact .inl rfl
      | succ n ih =>
        have e : (P4.mk p 0 0 s).pow (n + 1) = ((P4.mk p 0 0 s).pow n).mul ⟨p, 0, 0, s⟩ := rfl
        rw [e]
        rcases hm with hm | hm <;> rw [hm] at ih ⊢ <;> rcases ih with ih | ih <;> rw [ih] <;> simp [P4.mul]
    rcases this with e | e <;> rw [e] <;> simp [P4.fit]
  · have ht : (P4.mk p q r s).tr.natAbs < 2 := by
      unfold kindOf at hk
      rw [if_neg hb] at hk
      show (p + s).natAbs < 2
      split at hk
      · omega
      · split at hk <;> omega
    exact ⟨Plain.pow_12 ⟨p, q, r, s⟩ h ht, fun h1 h2 h3 h4 n => Plain.fit_small ⟨p, q, r, s⟩ h ht (by simp only [P4.fit]; omega) n⟩
theorem kind_great {p q r s : Int} (h : p * s - q * r = 1) (hk : ¬ kindOf p q r s < 2) : 2 ≤ (P4.mk p q r s).tr.natAbs := by
  unfold kindOf at hk
  show 2 ≤ (p + s).natAbs
  split at hk
  · omega
  · split at hk
    · omega
    · omega
/-- what the reference's power answers -/
def PowS (m : P4) (n : Nat) (e : Ending) : Prop := ∃ (x : P4) (b : Bool), e = .returned (.tuple #[P4.v4 x, .bool b]) ∧ (b = true → (m.pow n).fit ∧ x = m.pow n) ∧ (b = false → ¬ (m.pow n).fit)
set_option maxRecDepth 100000 in
set_option maxHeartbeats 8000000 in
theorem l01Power_small (p q r s : Int) (n : Nat) (w : World) (h : isM p q r s = true) (hn : n ≤ 1000000) (hk : kindOf p q r s < 2) :
    Calls Tryz.prog 108 #[.agg #[.int .i64 p, .int .i64 q, .int .i64 r, .int .i64 s], .int .i64 n] w fun e w' => PowS ⟨p, q, r, s⟩ n e ∧ Below w.heap.size w w' := by
  obtain ⟨⟨hp0, hp1⟩, ⟨hq0, hq1⟩, ⟨hr0, hr1⟩, ⟨hs0', hs1'⟩, hdet⟩ := isM_iff.mp h
  obtain ⟨h12, hfit⟩ := kind_small hdet hk
  have hfit' := hfit ⟨hp0, hp1⟩ ⟨hq0, hq1⟩ ⟨hr0, hr1⟩ ⟨hs0', hs1'⟩
  have HP := Lib.hid (Plain.pow_mod _ h12 n)
  have HF := Lib.hid hfit'
  have HM := Lib.hid (isM_ent h)
  clear hfit hfit' h12 h hdet
  have hn0 : (0 : Int) ≤ (n : Int) := by omega
  have hn1 : (n : Int) ≤ 1000000 := by omega
  generalize hkk : kindOf p q r s = kk at *
  have HK := Lib.hid hkk
  clear hkk
  have hkd : decide (kk < 2) = true := decide_eq_true hk
  go_enter Tryz.func108, Tryz.ntmps108
  go_wp2_with fail
  refine (l01Kind_c _ _ _ _ _ hp0 hp1 hs0' hs1').mono ?_
  rintro e w1 ⟨rfl, b1⟩
  rw [HK.out]
  have zzb1 := b1.size; (try simp at zzb1); have zb1_0 : w.heap.size < w1.heap.size := (by omega); have kcb1_0 : ∀ o, w1.cell? ⟨w.heap.size, o, none⟩ = _ := fun o => b1.cell (p := ⟨w.heap.size, o, none⟩) (by go_size); have kfb1_0 : ∀ o, w1.frozen? ⟨w.heap.size, o, none⟩ = _ := fun o => b1.frozen (p := ⟨w.heap.size, o, none⟩) (by go_size); have zb1_1 : w.heap.size + 1 < w1.heap.size := (by omega); have kcb1_1 : ∀ o, w1.cell? ⟨w.heap.size + 1, o, none⟩ = _ := fun o => b1.cell (p := ⟨w.heap.size + 1, o, none⟩) (by go_size); have kfb1_1 : ∀ o, w1.frozen? ⟨w.heap.size + 1, o, none⟩ = _ := fun o => b1.frozen (p := ⟨w.heap.size + 1, o, none⟩) (by go_size); have zb1_2 : w.heap.size + 2 < w1.heap.size := (by omega); have kcb1_2 : ∀ o, w1.cell? ⟨w.heap.size + 2, o, none⟩ = _ := fun o => b1.cell (p := ⟨w.heap.size + 2, o, none⟩) (by go_size); have kfb1_2 : ∀ o, w1.frozen? ⟨w.heap.size + 2, o, none⟩ = _ := fun o => b1.frozen (p := ⟨w.heap.size + 2, o, none⟩) (by go_size); clear zzb1
  have hB1 : Below w.heap.size w w1 := (by repeat' (first | (with_reducible exact Below.refl _ _) | (with_reducible assumption) | (with_reducible refine below_drewN ?_ _) | (with_reducible refine Below.drew ?_) | (with_reducible refine Below.alloc ?_ ?_ _) | (with_reducible refine Below.setCell ?_ ?_ _) | (with_reducible refine Below.trans ?_ (Below.mono (by with_reducible assumption) ?_)) | go_size | (dsimp only; omega)))
  go_wp2
  go_loopw [1] (fun k wr => ∃ (j i : Nat) (x : P4), j + i = n % 12 ∧ k = .int .i64 i ∧ Hid (x = (P4.mk p q r s).pow j) ∧
    wr.cell? ⟨w.heap.size + 2, 0, none⟩ = some (.int .i64 x.a) ∧ wr.cell? ⟨w.heap.size + 2, 1, none⟩ = some (.int .i64 x.b) ∧ wr.cell? ⟨w.heap.size + 2, 2, none⟩ = some (.int .i64 x.c) ∧ wr.cell? ⟨w.heap.size + 2, 3, none⟩ = some (.int .i64 x.d) ∧ (∀ i, wr.frozen? ⟨w.heap.size + 2, i, none⟩ = false) ∧ wr.cell? ⟨w.heap.size, 0, none⟩ = some (.int .i64 p) ∧ wr.cell? ⟨w.heap.size, 1, none⟩ = some (.int .i64 q) ∧ wr.cell? ⟨w.heap.size, 2, none⟩ = some (.int .i64 r) ∧ wr.cell? ⟨w.heap.size, 3, none⟩ = some (.int .i64 s) ∧ wr.cell? ⟨w.heap.size + 1, 0, none⟩ = some (.int .i64 0) ∧ wr.cell? ⟨w.heap.size + 1, 1, none⟩ = some (.int .i64 0) ∧ wr.cell? ⟨w.heap.size + 1, 2, none⟩ = some (.int .i64 0) ∧ wr.cell? ⟨w.heap.size + 1, 3, none⟩ = some (.int .i64 0) ∧ (∀ i, wr.frozen? ⟨w.heap.size + 1, i, none⟩ = false) ∧ Below w.heap.size w wr ∧ w.heap.size + 2 < wr.heap.size) (fun k wr => (intOf k).toNat)
  case atStart => exact ⟨0, n % 12, P4.one, by omega, by go_num, Lib.hid rfl, (by first | (go_simp; done) | (go_simp; rfl)), (by first | (go_simp; done) | (go_simp; rfl)), (by first | (go_simp; done) | (go_simp; rfl)), (by first | (go_simp; done) | (go_simp; rfl)), (by intro i; go_simp), by go_simp, by go_simp, by go_simp, by go_simp, by go_simp, by go_simp, by go_simp, by go_simp, (by intro i; go_simp), hB1, by go_size⟩
  case round =>
    obtain ⟨j, i, x, hji, rfl, HX, o0, o1, o2, o3, fo, m0, m1, m2, m3, z0, z1, z2, z3, zf, hB, hs⟩ := hrel
    clear hB1
    have hs0 : w.heap.size < wr.heap.size := by omega
    have hs1 : w.heap.size + 1 < wr.heap.size := by omega
    by_cases hi : i = 0
    · subst hi
      have hx : x = (P4.mk p q r s).pow n := by rw [HX.out, HP.out]; rw [show j = n % 12 by omega]
      have HXX := Lib.hid hx
      clear hx
      go_wp2
      exact bodyPost_ret (v := .tuple #[.agg #[.int .i64 x.a, .int .i64 x.b, .int .i64 x.c, .int .i64 x.d], .bool true]) (by simp only [results, Tryz.results108]; go_simp) rfl ⟨⟨x, true, rfl, fun _ => ⟨HF.out n, HXX.out⟩, fun e => by cases e⟩, (by repeat' (first | (with_reducible exact Below.refl _ _) | (with_reducible assumption) | (with_reducible refine below_drewN ?_ _) | (with_reducible refine Below.drew ?_) | (with_reducible refine Below.alloc ?_ ?_ _) | (with_reducible refine Below.setCell ?_ ?_ _) | (with_reducible refine Below.trans ?_ (Below.mono (by with_reducible assumption) ?_)) | go_size | (dsimp only; omega)))⟩
    · have hi0 : (0 : Int) < (i : Int) := by omega
      have hen : M4.ent ⟨x.a, x.b, x.c, x.d⟩ = true := P4.m4_ent.mpr (by rw [HX.out]; exact HF.out j)
      have hmul : (M4.mul ⟨x.a, x.b, x.c, x.d⟩ ⟨p, q, r, s⟩).ent = true := (P4.m4_ent (x := x.mul ⟨p, q, r, s⟩)).mpr (by rw [HX.out]; exact HF.out (j + 1))
      have HE := Lib.hid hen
      have HMU := Lib.hid hmul
      clear hen hmul
      go_wp2_with fail
      refine (l01Times_yes ⟨x.a, x.b, x.c, x.d⟩ ⟨p, q, r, s⟩ _ HE.out HM.out HMU.out).mono ?_
      rintro e w4 ⟨rfl, b4⟩
      have zzb4 := b4.size; (try simp at zzb4); have zb4_0 : w.heap.size < w4.heap.size := (by omega); have kcb4_0 : ∀ o, w4.cell? ⟨w.heap.size, o, none⟩ = _ := fun o => b4.cell (p := ⟨w.heap.size, o, none⟩) (by go_size); have kfb4_0 : ∀ o, w4.frozen? ⟨w.heap.size, o, none⟩ = _ := fun o => b4.frozen (p := ⟨w.heap.size, o, none⟩) (by go_size); have zb4_1 : w.heap.size + 1 < w4.heap.size := (by omega); have kcb4_1 : ∀ o, w4.cell? ⟨w.heap.size + 1, o, none⟩ = _ := fun o => b4.cell (p := ⟨w.heap.size + 1, o, none⟩) (by go_size); have kfb4_1 : ∀ o, w4.frozen? ⟨w.heap.size + 1, o, none⟩ = _ := fun o => b4.frozen (p := ⟨w.heap.size + 1, o, none⟩) (by go_size); have zb4_2 : w.heap.size + 2 < w4.heap.size := (by omega); have kcb4_2 : ∀ o, w4.cell? ⟨w.heap.size + 2, o, none⟩ = _ := fun o => b4.cell (p := ⟨w.heap.size + 2, o, none⟩) (by go_size); have kfb4_2 : ∀ o, w4.frozen? ⟨w.heap.size + 2, o, none⟩ = _ := fun o => b4.frozen (p := ⟨w.heap.size + 2, o, none⟩) (by go_size); clear zzb4
      have hx1 : x.mul ⟨p, q, r, s⟩ = (P4.mk p q r s).pow (j + 1) := by rw [HX.out]; rfl
      have HX1 := Lib.hid hx1
      have hmv : (M4.mul ⟨x.a, x.b, x.c, x.d⟩ ⟨p, q, r, s⟩).v = P4.v4 (x.mul ⟨p, q, r, s⟩) := rfl
      rw [hmv]
      clear hx1 hmv
      generalize x.mul ⟨p, q, r, s⟩ = y at *
      simp only [P4.v4]
      go_wp2
      go_roundw
      case rel => exact ⟨j + 1, i - 1, y, by omega, by (have : ((i - 1 : Nat) : Int) = (i : Int) - 1 := by omega); rw [this], HX1, by go_simp, by go_simp, by go_simp, by go_simp, (by intro i; go_simp), by go_simp, by go_simp, by go_simp, by go_simp, by go_simp, by go_simp, by go_simp, by go_simp, (by intro i; go_simp), (by repeat' (first | (with_reducible exact Below.refl _ _) | (with_reducible assumption) | (with_reducible refine below_drewN ?_ _) | (with_reducible refine Below.drew ?_) | (with_reducible refine Below.alloc ?_ ?_ _) | (with_reducible refine Below.setCell ?_ ?_ _) | (with_reducible refine Below.trans ?_ (Below.mono (by with_reducible assumption) ?_)) | go_size | (dsimp only; omega))), by go_size⟩
      case measure => simp [intOf]; omega
set_option maxRecDepth 100000 in
set_option maxHeartbeats 8000000 in
theorem l01Power_great (p q r s : Int) (n : Nat) (w : World) (h : isM p q r s = true) (hn : n ≤ 1000000) (hk : ¬ kindOf p q r s < 2) :
    Calls Tryz.prog 108 #[.agg #[.int .i64 p, .int .i64 q, .int .i64 r, .int .i64 s], .int .i64 n] w fun e w' => PowS ⟨p, q, r, s⟩ n e ∧ Below w.heap.size w w' := by
  obtain ⟨⟨hp0, hp1⟩, ⟨hq0, hq1⟩, ⟨hr0, hr1⟩, ⟨hs0', hs1'⟩, hdet⟩ := isM_iff.mp h
  have htr := kind_great hdet hk
  have HDET : Hid (P4.det ⟨p, q, r, s⟩ = 1) := Lib.hid hdet
  have HMONO : Hid (∀ i, i ≤ n → ((P4.mk p q r s).pow n).fit → ((P4.mk p q r s).pow i).fit) := Lib.hid (fun i hi hf => Plain.fit_mono _ HDET.out htr hi hf)
  have HONE := Lib.hid (P4.one_mul ⟨p, q, r, s⟩)
  have HM : Hid ((P4.mk p q r s).fit) := Lib.hid (fit_ent.mp (isM_ent h))
  clear h hdet htr
  have hn0 : (0 : Int) ≤ (n : Int) := by omega
  have hn1 : (n : Int) ≤ 1000000 := by omega
  generalize hkk : kindOf p q r s = kk at *
  have HK := Lib.hid hkk
  clear hkk
  have hkd : decide (kk < 2) = false := decide_eq_false hk
  go_enter Tryz.func108, Tryz.ntmps108
  go_wp2_with fail
  refine (l01Kind_c _ _ _ _ _ hp0 hp1 hs0' hs1').mono ?_
  rintro e w1 ⟨rfl, b1⟩
  rw [HK.out]
  have zzb1 := b1.size; (try simp at zzb1); have zb1_0 : w.heap.size < w1.heap.size := (by omega); have kcb1_0 : ∀ o, w1.cell? ⟨w.heap.size, o, none⟩ = _ := fun o => b1.cell (p := ⟨w.heap.size, o, none⟩) (by go_size); have kfb1_0 : ∀ o, w1.frozen? ⟨w.heap.size, o, none⟩ = _ := fun o => b1.frozen (p := ⟨w.heap.size, o, none⟩) (by go_size); have zb1_1 : w.heap.size + 1 < w1.heap.size := (by omega); have kcb1_1 : ∀ o, w1.cell? ⟨w.heap.size + 1, o, none⟩ = _ := fun o => b1.cell (p := ⟨w.heap.size + 1, o, none⟩) (by go_size); have kfb1_1 : ∀ o, w1.frozen? ⟨w.heap.size + 1, o, none⟩ = _ := fun o => b1.frozen (p := ⟨w.heap.size + 1, o, none⟩) (by go_size); have zb1_2 : w.heap.size + 2 < w1.heap.size := (by omega); have kcb1_2 : ∀ o, w1.cell? ⟨w.heap.size + 2, o, none⟩ = _ := fun o => b1.cell (p := ⟨w.heap.size + 2, o, none⟩) (by go_size); have kfb1_2 : ∀ o, w1.frozen? ⟨w.heap.size + 2, o, none⟩ = _ := fun o => b1.frozen (p := ⟨w.heap.size + 2, o, none⟩) (by go_size); clear zzb1
  have hB1 : Below w.heap.size w w1 := (by repeat' (first | (with_reducible exact Below.refl _ _) | (with_reducible assumption) | (with_reducible refine below_drewN ?_ _) | (with_reducible refine Below.drew ?_) | (with_reducible refine Below.alloc ?_ ?_ _) | (with_reducible refine Below.setCell ?_ ?_ _) | (with_reducible refine Below.trans ?_ (Below.mono (by with_reducible assumption) ?_)) | go_size | (dsimp only; omega)))
  go_wp2
  go_loopw [1, 8, 9] (fun k f bs wr => ∃ (A B i : Nat) (ok : Bool) (x y : P4) (g : Nat), k = .int .i64 i ∧ f = .bool ok ∧ bs = .pointer (some ⟨g, 0, none⟩) ∧ i ≤ n ∧ w.heap.size + 2 < g ∧ g < wr.heap.size ∧
    Hid (ok = true → 1 ≤ B ∧ A + B * i = n ∧ x = (P4.mk p q r s).pow A ∧ (i ≠ 0 → y = (P4.mk p q r s).pow B) ∧ x.fit ∧ y.fit) ∧ Hid (ok = false → ¬ ((P4.mk p q r s).pow n).fit) ∧
    wr.cell? ⟨w.heap.size + 2, 0, none⟩ = some (.int .i64 x.a) ∧ wr.cell? ⟨w.heap.size + 2, 1, none⟩ = some (.int .i64 x.b) ∧ wr.cell? ⟨w.heap.size + 2, 2, none⟩ = some (.int .i64 x.c) ∧ wr.cell? ⟨w.heap.size + 2, 3, none⟩ = some (.int .i64 x.d) ∧ (∀ i, wr.frozen? ⟨w.heap.size + 2, i, none⟩ = false) ∧ wr.cell? ⟨g, 0, none⟩ = some (.int .i64 y.a) ∧ wr.cell? ⟨g, 1, none⟩ = some (.int .i64 y.b) ∧ wr.cell? ⟨g, 2, none⟩ = some (.int .i64 y.c) ∧ wr.cell? ⟨g, 3, none⟩ = some (.int .i64 y.d) ∧ (∀ i, wr.frozen? ⟨g, i, none⟩ = false) ∧ wr.cell? ⟨w.heap.size + 1, 0, none⟩ = some (.int .i64 0) ∧ wr.cell? ⟨w.heap.size + 1, 1, none⟩ = some (.int .i64 0) ∧ wr.cell? ⟨w.heap.size + 1, 2, none⟩ = some (.int .i64 0) ∧ wr.cell? ⟨w.heap.size + 1, 3, none⟩ = some (.int .i64 0) ∧ (∀ i, wr.frozen? ⟨w.heap.size + 1, i, none⟩ = false) ∧ Below w.heap.size w wr ∧ w.heap.size + 2 < wr.heap.size) (fun k f bs wr => (intOf k).toNat)
  case atStart => exact ⟨0, 1, n, true, P4.one, ⟨p, q, r, s⟩, w1.heap.size, rfl, rfl, rfl, Nat.le_refl _, zb1_2, by go_size, Lib.hid (fun _ => ⟨by omega, by omega, rfl, fun _ => HONE.out.symm, by simp [P4.fit, P4.one], HM.out⟩), Lib.hid (fun e => by cases e),
    (by first | (go_simp; done) | (go_simp; rfl)), (by first | (go_simp; done) | (go_simp; rfl)), (by first | (go_simp; done) | (go_simp; rfl)), (by first | (go_simp; done) | (go_simp; rfl)), (by intro i; go_simp), by go_simp, by go_simp, by go_simp, by go_simp, (by intro i; go_simp), by go_simp, by go_simp, by go_simp, by go_simp, (by intro i; go_simp), (by repeat' (first | (with_reducible exact Below.refl _ _) | (with_reducible assumption) | (with_reducible refine below_drewN ?_ _) | (with_reducible refine Below.drew ?_) | (with_reducible refine Below.alloc ?_ ?_ _) | (with_reducible refine Below.setCell ?_ ?_ _) | (with_reducible refine Below.trans ?_ (Below.mono (by with_reducible assumption) ?_)) | go_size | (dsimp only; omega))), by go_size⟩
  case round =>
    obtain ⟨A, B, i, ok, x, y, g, rfl, rfl, rfl, hin, hg0, hg1, HT, HF, o0, o1, o2, o3, fo, m0, m1, m2, m3, fg, z0, z1, z2, z3, zf, hB, hs⟩ := hrel
    clear hB1
    have hs0 : w.heap.size < wr.heap.size := by omega
    have hs1 : w.heap.size + 1 < wr.heap.size := by omega
    have ne1 : ¬ g = w.heap.size + 2 := by omega
    have ne2 : ¬ g = w.heap.size + 1 := by omega
    have ne3 : ¬ w.heap.size + 2 = g := by omega
    have ne4 : ¬ w.heap.size + 1 = g := by omega
    cases ok
    · by_cases hi : i = 0
      · have hi2 : (i : Int) = 0 := by omega
        subst hi
        go_wp2
        exact bodyPost_ret (v := .tuple #[.agg #[.int .i64 x.a, .int .i64 x.b, .int .i64 x.c, .int .i64 x.d], .bool false]) (by simp only [results, Tryz.results108]; go_simp) rfl ⟨⟨x, false, rfl, (fun e => by cases e), fun _ => HF.out (by simp)⟩, (by repeat' (first | (with_reducible exact Below.refl _ _) | (with_reducible assumption) | (with_reducible refine below_drewN ?_ _) | (with_reducible refine Below.drew ?_) | (with_reducible refine Below.alloc ?_ ?_ _) | (with_reducible refine Below.setCell ?_ ?_ _) | (with_reducible refine Below.trans ?_ (Below.mono (by with_reducible assumption) ?_)) | go_size | (dsimp only; omega)))⟩
      · have hi2 : (0 : Int) < (i : Int) := by omega
        go_wp2
        exact bodyPost_ret (v := .tuple #[.agg #[.int .i64 x.a, .int .i64 x.b, .int .i64 x.c, .int .i64 x.d], .bool false]) (by simp only [results, Tryz.results108]; go_simp) rfl ⟨⟨x, false, rfl, (fun e => by cases e), fun _ => HF.out (by simp)⟩, (by repeat' (first | (with_reducible exact Below.refl _ _) | (with_reducible assumption) | (with_reducible refine below_drewN ?_ _) | (with_reducible refine Below.drew ?_) | (with_reducible refine Below.alloc ?_ ?_ _) | (with_reducible refine Below.setCell ?_ ?_ _) | (with_reducible refine Below.trans ?_ (Below.mono (by with_reducible assumption) ?_)) | go_size | (dsimp only; omega)))⟩
    · obtain ⟨hB1', hsum, hx, hy, hfx, hfy⟩ := HT.out rfl
      by_cases hi : i = 0
      · subst hi
        have HFIN : Hid (((P4.mk p q r s).pow n).fit ∧ x = (P4.mk p q r s).pow n) := Lib.hid (by
          have e : A = n := by simpa using hsum
          rw [← e, ← hx]; exact ⟨hfx, rfl⟩)
        clear hsum hx hy hfx hfy
        go_wp2
        exact bodyPost_ret (v := .tuple #[.agg #[.int .i64 x.a, .int .i64 x.b, .int .i64 x.c, .int .i64 x.d], .bool true]) (by simp only [results, Tryz.results108]; go_simp) rfl ⟨⟨x, true, rfl, (fun _ => HFIN.out), fun e => by cases e⟩, (by repeat' (first | (with_reducible exact Below.refl _ _) | (with_reducible assumption) | (with_reducible refine below_drewN ?_ _) | (with_reducible refine Below.drew ?_) | (with_reducible refine Below.alloc ?_ ?_ _) | (with_reducible refine Below.setCell ?_ ?_ _) | (with_reducible refine Below.trans ?_ (Below.mono (by with_reducible assumption) ?_)) | go_size | (dsimp only; omega)))⟩
      · have hi2 : (0 : Int) < (i : Int) := by omega
        have HSUM := Lib.hid hsum
        have HX := Lib.hid hx
        have HXF := Lib.hid hfx
        have HY := Lib.hid (hy hi)
        have HYF := Lib.hid hfy
        have HXE : Hid (M4.ent ⟨x.a, x.b, x.c, x.d⟩ = true) := Lib.hid (P4.m4_ent.mpr hfx)
        have HYE : Hid (M4.ent ⟨y.a, y.b, y.c, y.d⟩ = true) := Lib.hid (P4.m4_ent.mpr hfy)
        clear hsum hx hy hfx hfy
        by_cases hpar : i % 2 = 0
        · have e1 : (i : Int) % 2 = 0 := by omega
          have hi3 : (1 : Int) < (i : Int) := by omega
          clear hpar
          have hAB : A + (B + B) * (i / 2) = n := by
            have hb2 : (B + B) * (i / 2) = B * (2 * (i / 2)) := by rw [← Nat.two_mul, Nat.mul_comm 2 B, Nat.mul_assoc]
            rw [hb2]
            rw [← HSUM.out]
            obtain ⟨m, rfl | rfl⟩ : ∃ m, i = 2 * m ∨ i = 2 * m + 1 := ⟨i / 2, by omega⟩
            · have e : 2 * m / 2 = m := by omega
              rw [e]
            · have e : (2 * m + 1) / 2 = m := by omega
              rw [e, Nat.mul_add]; omega
          have hBB : B + B ≤ n := by
            have h1 : B * 2 ≤ B * i := Nat.mul_le_mul_left B (by omega)
            have := HSUM.out
            omega
          have hy2 : y.mul y = (P4.mk p q r s).pow (B + B) := by rw [HY.out, P4.pow_add]
          have HY2 := Lib.hid hy2
          have HAB := Lib.hid hAB
          clear hy2 hAB
          cases hf2 : M4.ent (M4.mul ⟨y.a, y.b, y.c, y.d⟩ ⟨y.a, y.b, y.c, y.d⟩)
          · have hno : ¬ ((P4.mk p q r s).pow n).fit := fun h => by
              have h2 := HMONO.out (B + B) hBB h
              rw [← HY2.out] at h2
              have h3 := (P4.m4_ent (x := y.mul y)).mpr h2
              have h4 : M4.ent (M4.mul ⟨y.a, y.b, y.c, y.d⟩ ⟨y.a, y.b, y.c, y.d⟩) = true := h3
              rw [hf2] at h4; cases h4
            have HNO := Lib.hid hno
            have HF2 := Lib.hid hf2
            clear hno hf2
            go_wp2_with fail
            refine (l01Times_no ⟨y.a, y.b, y.c, y.d⟩ ⟨y.a, y.b, y.c, y.d⟩ _ HYE.out HYE.out HF2.out).mono ?_
            rintro e w6 ⟨rfl, b6⟩
            have zzb6 := b6.size; (try simp at zzb6); have zb6_w0 : w.heap.size < w6.heap.size := (by omega); have kcb6_w0 : ∀ o, w6.cell? ⟨w.heap.size, o, none⟩ = _ := fun o => b6.cell (p := ⟨w.heap.size, o, none⟩) (by go_size); have kfb6_w0 : ∀ o, w6.frozen? ⟨w.heap.size, o, none⟩ = _ := fun o => b6.frozen (p := ⟨w.heap.size, o, none⟩) (by go_size); have zb6_w1 : w.heap.size + 1 < w6.heap.size := (by omega); have kcb6_w1 : ∀ o, w6.cell? ⟨w.heap.size + 1, o, none⟩ = _ := fun o => b6.cell (p := ⟨w.heap.size + 1, o, none⟩) (by go_size); have kfb6_w1 : ∀ o, w6.frozen? ⟨w.heap.size + 1, o, none⟩ = _ := fun o => b6.frozen (p := ⟨w.heap.size + 1, o, none⟩) (by go_size); have zb6_w2 : w.heap.size + 2 < w6.heap.size := (by omega); have kcb6_w2 : ∀ o, w6.cell? ⟨w.heap.size + 2, o, none⟩ = _ := fun o => b6.cell (p := ⟨w.heap.size + 2, o, none⟩) (by go_size); have kfb6_w2 : ∀ o, w6.frozen? ⟨w.heap.size + 2, o, none⟩ = _ := fun o => b6.frozen (p := ⟨w.heap.size + 2, o, none⟩) (by go_size); have zb6_g0 : g < w6.heap.size := (by omega); have kcb6_g0 : ∀ o, w6.cell? ⟨g, o, none⟩ = _ := fun o => b6.cell (p := ⟨g, o, none⟩) (by go_size); have kfb6_g0 : ∀ o, w6.frozen? ⟨g, o, none⟩ = _ := fun o => b6.frozen (p := ⟨g, o, none⟩) (by go_size); clear zzb6
            go_wp2
            go_roundw
            case rel => exact ⟨0, 0, i / 2, false, x, ⟨0, 0, 0, 0⟩, _, (by go_num), rfl, rfl, by omega, (by go_size), (by go_size), Lib.hid (fun e => by cases e), Lib.hid (fun _ => HNO.out), by go_simp, by go_simp, by go_simp, by go_simp, (by intro i; go_simp), by go_simp, by go_simp, by go_simp, by go_simp, (by intro i; go_simp), by go_simp, by go_simp, by go_simp, by go_simp, (by intro i; go_simp), (by repeat' (first | (with_reducible exact Below.refl _ _) | (with_reducible assumption) | (with_reducible refine below_drewN ?_ _) | (with_reducible refine Below.drew ?_) | (with_reducible refine Below.alloc ?_ ?_ _) | (with_reducible refine Below.setCell ?_ ?_ _) | (with_reducible refine Below.trans ?_ (Below.mono (by with_reducible assumption) ?_)) | go_size | (dsimp only; omega))), by go_size⟩
            case measure => (simp [intOf]; omega)
          · have hfy : (y.mul y).fit := (P4.m4_ent (x := y.mul y)).mp hf2
            have HFY := Lib.hid hfy
            have HF2 := Lib.hid hf2
            clear hfy hf2
            go_wp2_with fail
            refine (l01Times_yes ⟨y.a, y.b, y.c, y.d⟩ ⟨y.a, y.b, y.c, y.d⟩ _ HYE.out HYE.out HF2.out).mono ?_
            rintro e w6 ⟨rfl, b6⟩
            have zzb6 := b6.size; (try simp at zzb6); have zb6_w0 : w.heap.size < w6.heap.size := (by omega); have kcb6_w0 : ∀ o, w6.cell? ⟨w.heap.size, o, none⟩ = _ := fun o => b6.cell (p := ⟨w.heap.size, o, none⟩) (by go_size); have kfb6_w0 : ∀ o, w6.frozen? ⟨w.heap.size, o, none⟩ = _ := fun o => b6.frozen (p := ⟨w.heap.size, o, none⟩) (by go_size); have zb6_w1 : w.heap.size + 1 < w6.heap.size := (by omega); have kcb6_w1 : ∀ o, w6.cell? ⟨w.heap.size + 1, o, none⟩ = _ := fun o => b6.cell (p := ⟨w.heap.size + 1, o, none⟩) (by go_size); have kfb6_w1 : ∀ o, w6.frozen? ⟨w.heap.size + 1, o, none⟩ = _ := fun o => b6.frozen (p := ⟨w.heap.size + 1, o, none⟩) (by go_size); have zb6_w2 : w.heap.size + 2 < w6.heap.size := (by omega); have kcb6_w2 : ∀ o, w6.cell? ⟨w.heap.size + 2, o, none⟩ = _ := fun o => b6.cell (p := ⟨w.heap.size + 2, o, none⟩) (by go_size); have kfb6_w2 : ∀ o, w6.frozen? ⟨w.heap.size + 2, o, none⟩ = _ := fun o => b6.frozen (p := ⟨w.heap.size + 2, o, none⟩) (by go_size); have zb6_g0 : g < w6.heap.size := (by omega); have kcb6_g0 : ∀ o, w6.cell? ⟨g, o, none⟩ = _ := fun o => b6.cell (p := ⟨g, o, none⟩) (by go_size); have kfb6_g0 : ∀ o, w6.frozen? ⟨g, o, none⟩ = _ := fun o => b6.frozen (p := ⟨g, o, none⟩) (by go_size); clear zzb6
            have hmv : (M4.mul ⟨y.a, y.b, y.c, y.d⟩ ⟨y.a, y.b, y.c, y.d⟩).v = P4.v4 (y.mul y) := rfl
            rw [hmv]
            clear hmv
            generalize y.mul y = y2 at *
            simp only [P4.v4]
            go_wp2
            go_roundw
            case rel => exact ⟨A, B + B, i / 2, true, x, y2, _, (by go_num), rfl, rfl, by omega, (by go_size), (by go_size), Lib.hid (fun _ => ⟨by omega, HAB.out, HX.out, (fun _ => HY2.out), HXF.out, HFY.out⟩), Lib.hid (fun e => by cases e), by go_simp, by go_simp, by go_simp, by go_simp, (by intro i; go_simp), by go_simp, by go_simp, by go_simp, by go_simp, (by intro i; go_simp), by go_simp, by go_simp, by go_simp, by go_simp, (by intro i; go_simp), (by repeat' (first | (with_reducible exact Below.refl _ _) | (with_reducible assumption) | (with_reducible refine below_drewN ?_ _) | (with_reducible refine Below.drew ?_) | (with_reducible refine Below.alloc ?_ ?_ _) | (with_reducible refine Below.setCell ?_ ?_ _) | (with_reducible refine Below.trans ?_ (Below.mono (by with_reducible assumption) ?_)) | go_size | (dsimp only; omega))), by go_size⟩
            case measure => (simp [intOf]; omega)
        · have e1 : (i : Int) % 2 = 1 := by omega
          have hABn : A + B ≤ n := by
            have h1 : B * 1 ≤ B * i := Nat.mul_le_mul_left B (by omega)
            have := HSUM.out
            omega
          have hz : x.mul y = (P4.mk p q r s).pow (A + B) := by rw [HX.out, HY.out, P4.pow_add]
          have HZ := Lib.hid hz
          clear hz
          cases hf1 : M4.ent (M4.mul ⟨x.a, x.b, x.c, x.d⟩ ⟨y.a, y.b, y.c, y.d⟩)
          · have hno : ¬ ((P4.mk p q r s).pow n).fit := fun h => by
              have h2 := HMONO.out (A + B) hABn h
              rw [← HZ.out] at h2
              have h4 : M4.ent (M4.mul ⟨x.a, x.b, x.c, x.d⟩ ⟨y.a, y.b, y.c, y.d⟩) = true := (P4.m4_ent (x := x.mul y)).mpr h2
              rw [hf1] at h4; cases h4
            have HNO := Lib.hid hno
            have HF1 := Lib.hid hf1
            clear hno hf1
            by_cases hi1 : i = 1
            · have hi3 : ¬ (1 : Int) < (i : Int) := by omega
              clear hi1
              go_wp2_with fail
              refine (l01Times_no ⟨x.a, x.b, x.c, x.d⟩ ⟨y.a, y.b, y.c, y.d⟩ _ HXE.out HYE.out HF1.out).mono ?_
              rintro e w5 ⟨rfl, b5⟩
              have zzb5 := b5.size; (try simp at zzb5); have zb5_w0 : w.heap.size < w5.heap.size := (by omega); have kcb5_w0 : ∀ o, w5.cell? ⟨w.heap.size, o, none⟩ = _ := fun o => b5.cell (p := ⟨w.heap.size, o, none⟩) (by go_size); have kfb5_w0 : ∀ o, w5.frozen? ⟨w.heap.size, o, none⟩ = _ := fun o => b5.frozen (p := ⟨w.heap.size, o, none⟩) (by go_size); have zb5_w1 : w.heap.size + 1 < w5.heap.size := (by omega); have kcb5_w1 : ∀ o, w5.cell? ⟨w.heap.size + 1, o, none⟩ = _ := fun o => b5.cell (p := ⟨w.heap.size + 1, o, none⟩) (by go_size); have kfb5_w1 : ∀ o, w5.frozen? ⟨w.heap.size + 1, o, none⟩ = _ := fun o => b5.frozen (p := ⟨w.heap.size + 1, o, none⟩) (by go_size); have zb5_w2 : w.heap.size + 2 < w5.heap.size := (by omega); have kcb5_w2 : ∀ o, w5.cell? ⟨w.heap.size + 2, o, none⟩ = _ := fun o => b5.cell (p := ⟨w.heap.size + 2, o, none⟩) (by go_size); have kfb5_w2 : ∀ o, w5.frozen? ⟨w.heap.size + 2, o, none⟩ = _ := fun o => b5.frozen (p := ⟨w.heap.size + 2, o, none⟩) (by go_size); have zb5_g0 : g < w5.heap.size := (by omega); have kcb5_g0 : ∀ o, w5.cell? ⟨g, o, none⟩ = _ := fun o => b5.cell (p := ⟨g, o, none⟩) (by go_size); have kfb5_g0 : ∀ o, w5.frozen? ⟨g, o, none⟩ = _ := fun o => b5.frozen (p := ⟨g, o, none⟩) (by go_size); clear zzb5
              go_wp2
              go_roundw
              case rel => exact ⟨0, 0, i / 2, false, ⟨0, 0, 0, 0⟩, y, _, (by go_num), rfl, rfl, by omega, (by go_size), (by go_size), Lib.hid (fun e => by cases e), Lib.hid (fun _ => HNO.out), by go_simp, by go_simp, by go_simp, by go_simp, (by intro i; go_simp), by go_simp, by go_simp, by go_simp, by go_simp, (by intro i; go_simp), by go_simp, by go_simp, by go_simp, by go_simp, (by intro i; go_simp), (by repeat' (first | (with_reducible exact Below.refl _ _) | (with_reducible assumption) | (with_reducible refine below_drewN ?_ _) | (with_reducible refine Below.drew ?_) | (with_reducible refine Below.alloc ?_ ?_ _) | (with_reducible refine Below.setCell ?_ ?_ _) | (with_reducible refine Below.trans ?_ (Below.mono (by with_reducible assumption) ?_)) | go_size | (dsimp only; omega))), by go_size⟩
              case measure => (simp [intOf]; omega)
            · have hi3 : (1 : Int) < (i : Int) := by omega
              go_wp2_with fail
              refine (l01Times_no ⟨x.a, x.b, x.c, x.d⟩ ⟨y.a, y.b, y.c, y.d⟩ _ HXE.out HYE.out HF1.out).mono ?_
              rintro e w5 ⟨rfl, b5⟩
              have zzb5 := b5.size; (try simp at zzb5); have zb5_w0 : w.heap.size < w5.heap.size := (by omega); have kcb5_w0 : ∀ o, w5.cell? ⟨w.heap.size, o, none⟩ = _ := fun o => b5.cell (p := ⟨w.heap.size, o, none⟩) (by go_size); have kfb5_w0 : ∀ o, w5.frozen? ⟨w.heap.size, o, none⟩ = _ := fun o => b5.frozen (p := ⟨w.heap.size, o, none⟩) (by go_size); have zb5_w1 : w.heap.size + 1 < w5.heap.size := (by omega); have kcb5_w1 : ∀ o, w5.cell? ⟨w.heap.size + 1, o, none⟩ = _ := fun o => b5.cell (p := ⟨w.heap.size + 1, o, none⟩) (by go_size); have kfb5_w1 : ∀ o, w5.frozen? ⟨w.heap.size + 1, o, none⟩ = _ := fun o => b5.frozen (p := ⟨w.heap.size + 1, o, none⟩) (by go_size); have zb5_w2 : w.heap.size + 2 < w5.heap.size := (by omega); have kcb5_w2 : ∀ o, w5.cell? ⟨w.heap.size + 2, o, none⟩ = _ := fun o => b5.cell (p := ⟨w.heap.size + 2, o, none⟩) (by go_size); have kfb5_w2 : ∀ o, w5.frozen? ⟨w.heap.size + 2, o, none⟩ = _ := fun o => b5.frozen (p := ⟨w.heap.size + 2, o, none⟩) (by go_size); have zb5_g0 : g < w5.heap.size := (by omega); have kcb5_g0 : ∀ o, w5.cell? ⟨g, o, none⟩ = _ := fun o => b5.cell (p := ⟨g, o, none⟩) (by go_size); have kfb5_g0 : ∀ o, w5.frozen? ⟨g, o, none⟩ = _ := fun o => b5.frozen (p := ⟨g, o, none⟩) (by go_size); clear zzb5
              go_wp2
              go_roundw
              case rel => exact ⟨0, 0, i / 2, false, ⟨0, 0, 0, 0⟩, y, _, (by go_num), rfl, rfl, by omega, (by go_size), (by go_size), Lib.hid (fun e => by cases e), Lib.hid (fun _ => HNO.out), by go_simp, by go_simp, by go_simp, by go_simp, (by intro i; go_simp), by go_simp, by go_simp, by go_simp, by go_simp, (by intro i; go_simp), by go_simp, by go_simp, by go_simp, by go_simp, (by intro i; go_simp), (by repeat' (first | (with_reducible exact Below.refl _ _) | (with_reducible assumption) | (with_reducible refine below_drewN ?_ _) | (with_reducible refine Below.drew ?_) | (with_reducible refine Below.alloc ?_ ?_ _) | (with_reducible refine Below.setCell ?_ ?_ _) | (with_reducible refine Below.trans ?_ (Below.mono (by with_reducible assumption) ?_)) | go_size | (dsimp only; omega))), by go_size⟩
              case measure => (simp [intOf]; omega)
          · have hfz : (x.mul y).fit := (P4.m4_ent (x := x.mul y)).mp hf1
            have HF1 := Lib.hid hf1
            have HZF := Lib.hid hfz
            clear hf1 hfz
            go_wp2_with fail
            refine (l01Times_yes ⟨x.a, x.b, x.c, x.d⟩ ⟨y.a, y.b, y.c, y.d⟩ _ HXE.out HYE.out HF1.out).mono ?_
            rintro e w5 ⟨rfl, b5⟩
            have zzb5 := b5.size; (try simp at zzb5); have zb5_w0 : w.heap.size < w5.heap.size := (by omega); have kcb5_w0 : ∀ o, w5.cell? ⟨w.heap.size, o, none⟩ = _ := fun o => b5.cell (p := ⟨w.heap.size, o, none⟩) (by go_size); have kfb5_w0 : ∀ o, w5.frozen? ⟨w.heap.size, o, none⟩ = _ := fun o => b5.frozen (p := ⟨w.heap.size, o, none⟩) (by go_size); have zb5_w1 : w.heap.size + 1 < w5.heap.size := (by omega); have kcb5_w1 : ∀ o, w5.cell? ⟨w.heap.size + 1, o, none⟩ = _ := fun o => b5.cell (p := ⟨w.heap.size + 1, o, none⟩) (by go_size); have kfb5_w1 : ∀ o, w5.frozen? ⟨w.heap.size + 1, o, none⟩ = _ := fun o => b5.frozen (p := ⟨w.heap.size + 1, o, none⟩) (by go_size); have zb5_w2 : w.heap.size + 2 < w5.heap.size := (by omega); have kcb5_w2 : ∀ o, w5.cell? ⟨w.heap.size + 2, o, none⟩ = _ := fun o => b5.cell (p := ⟨w.heap.size + 2, o, none⟩) (by go_size); have kfb5_w2 : ∀ o, w5.frozen? ⟨w.heap.size + 2, o, none⟩ = _ := fun o => b5.frozen (p := ⟨w.heap.size + 2, o, none⟩) (by go_size); have zb5_g0 : g < w5.heap.size := (by omega); have kcb5_g0 : ∀ o, w5.cell? ⟨g, o, none⟩ = _ := fun o => b5.cell (p := ⟨g, o, none⟩) (by go_size); have kfb5_g0 : ∀ o, w5.frozen? ⟨g, o, none⟩ = _ := fun o => b5.frozen (p := ⟨g, o, none⟩) (by go_size); clear zzb5
            have hmv0 : (M4.mul ⟨x.a, x.b, x.c, x.d⟩ ⟨y.a, y.b, y.c, y.d⟩).v = P4.v4 (x.mul y) := rfl
            rw [hmv0]
            clear hmv0
            generalize x.mul y = z at *
            simp only [P4.v4]
            by_cases hi1 : i = 1
            · have hi3 : ¬ (1 : Int) < (i : Int) := by omega
              have HEND : Hid (A + B = n) := Lib.hid (by have := HSUM.out; rw [hi1] at this; omega)
              go_wp2
              go_roundw
              case rel => exact ⟨A + B, 1, i / 2, true, z, y, _, (by go_num), rfl, rfl, by omega, (by go_size), (by go_size), Lib.hid (fun _ => ⟨by omega, by rw [show i / 2 = 0 by omega]; simpa using HEND.out, HZ.out, (fun h => absurd (show i / 2 = 0 by omega) h), HZF.out, HYF.out⟩), Lib.hid (fun e => by cases e), by go_simp, by go_simp, by go_simp, by go_simp, (by intro i; go_simp), by go_simp, by go_simp, by go_simp, by go_simp, (by intro i; go_simp), by go_simp, by go_simp, by go_simp, by go_simp, (by intro i; go_simp), (by repeat' (first | (with_reducible exact Below.refl _ _) | (with_reducible assumption) | (with_reducible refine below_drewN ?_ _) | (with_reducible refine Below.drew ?_) | (with_reducible refine Below.alloc ?_ ?_ _) | (with_reducible refine Below.setCell ?_ ?_ _) | (with_reducible refine Below.trans ?_ (Below.mono (by with_reducible assumption) ?_)) | go_size | (dsimp only; omega))), by go_size⟩
              case measure => (simp [intOf]; omega)
            · have hi3 : (1 : Int) < (i : Int) := by omega
              have hAB : A + B + (B + B) * (i / 2) = n := by
                have hb2 : (B + B) * (i / 2) = B * (2 * (i / 2)) := by rw [← Nat.two_mul, Nat.mul_comm 2 B, Nat.mul_assoc]
                rw [hb2]
                rw [← HSUM.out]
                obtain ⟨m, rfl | rfl⟩ : ∃ m, i = 2 * m ∨ i = 2 * m + 1 := ⟨i / 2, by omega⟩
                · have e : 2 * m / 2 = m := by omega
                  rw [e]; omega
                · have e : (2 * m + 1) / 2 = m := by omega
                  rw [e, Nat.mul_add]; omega
              have hBB : B + B ≤ n := by
                have h1 : B * 2 ≤ B * i := Nat.mul_le_mul_left B (by omega)
                have := HSUM.out
                omega
              have hy2 : y.mul y = (P4.mk p q r s).pow (B + B) := by rw [HY.out, P4.pow_add]
              have HY2 := Lib.hid hy2
              have HAB := Lib.hid hAB
              clear hy2 hAB
              cases hf2 : M4.ent (M4.mul ⟨y.a, y.b, y.c, y.d⟩ ⟨y.a, y.b, y.c, y.d⟩)
              · have hno : ¬ ((P4.mk p q r s).pow n).fit := fun h => by
                  have h2 := HMONO.out (B + B) hBB h
                  rw [← HY2.out] at h2
                  have h3 := (P4.m4_ent (x := y.mul y)).mpr h2
                  have h4 : M4.ent (M4.mul ⟨y.a, y.b, y.c, y.d⟩ ⟨y.a, y.b, y.c, y.d⟩) = true := h3
                  rw [hf2] at h4; cases h4
                have HNO := Lib.hid hno
                have HF2 := Lib.hid hf2
                clear hno hf2
                go_wp2_with fail
                refine (l01Times_no ⟨y.a, y.b, y.c, y.d⟩ ⟨y.a, y.b, y.c, y.d⟩ _ HYE.out HYE.out HF2.out).mono ?_
                rintro e w6 ⟨rfl, b6⟩
                have zzb6 := b6.size; (try simp at zzb6); have zb6_w0 : w.heap.size < w6.heap.size := (by omega); have kcb6_w0 : ∀ o, w6.cell? ⟨w.heap.size, o, none⟩ = _ := fun o => b6.cell (p := ⟨w.heap.size, o, none⟩) (by go_size); have kfb6_w0 : ∀ o, w6.frozen? ⟨w.heap.size, o, none⟩ = _ := fun o => b6.frozen (p := ⟨w.heap.size, o, none⟩) (by go_size); have zb6_w1 : w.heap.size + 1 < w6.heap.size := (by omega); have kcb6_w1 : ∀ o, w6.cell? ⟨w.heap.size + 1, o, none⟩ = _ := fun o => b6.cell (p := ⟨w.heap.size + 1, o, none⟩) (by go_size); have kfb6_w1 : ∀ o, w6.frozen? ⟨w.heap.size + 1, o, none⟩ = _ := fun o => b6.frozen (p := ⟨w.heap.size + 1, o, none⟩) (by go_size); have zb6_w2 : w.heap.size + 2 < w6.heap.size := (by omega); have kcb6_w2 : ∀ o, w6.cell? ⟨w.heap.size + 2, o, none⟩ = _ := fun o => b6.cell (p := ⟨w.heap.size + 2, o, none⟩) (by go_size); have kfb6_w2 : ∀ o, w6.frozen? ⟨w.heap.size + 2, o, none⟩ = _ := fun o => b6.frozen (p := ⟨w.heap.size + 2, o, none⟩) (by go_size); have zb6_g0 : g < w6.heap.size := (by omega); have kcb6_g0 : ∀ o, w6.cell? ⟨g, o, none⟩ = _ := fun o => b6.cell (p := ⟨g, o, none⟩) (by go_size); have kfb6_g0 : ∀ o, w6.frozen? ⟨g, o, none⟩ = _ := fun o => b6.frozen (p := ⟨g, o, none⟩) (by go_size); clear zzb6
                go_wp2
                go_roundw
                case rel => exact ⟨0, 0, i / 2, false, z, ⟨0, 0, 0, 0⟩, _, (by go_num), rfl, rfl, by omega, (by go_size), (by go_size), Lib.hid (fun e => by cases e), Lib.hid (fun _ => HNO.out), by go_simp, by go_simp, by go_simp, by go_simp, (by intro i; go_simp), by go_simp, by go_simp, by go_simp, by go_simp, (by intro i; go_simp), by go_simp, by go_simp, by go_simp, by go_simp, (by intro i; go_simp), (by repeat' (first | (with_reducible exact Below.refl _ _) | (with_reducible assumption) | (with_reducible refine below_drewN ?_ _) | (with_reducible refine Below.drew ?_) | (with_reducible refine Below.alloc ?_ ?_ _) | (with_reducible refine Below.setCell ?_ ?_ _) | (with_reducible refine Below.trans ?_ (Below.mono (by with_reducible assumption) ?_)) | go_size | (dsimp only; omega))), by go_size⟩
                case measure => (simp [intOf]; omega)
              · have hfy : (y.mul y).fit := (P4.m4_ent (x := y.mul y)).mp hf2
                have HFY := Lib.hid hfy
                have HF2 := Lib.hid hf2
                clear hfy hf2
                go_wp2_with fail
                refine (l01Times_yes ⟨y.a, y.b, y.c, y.d⟩ ⟨y.a, y.b, y.c, y.d⟩ _ HYE.out HYE.out HF2.out).mono ?_
                rintro e w6 ⟨rfl, b6⟩
                have zzb6 := b6.size; (try simp at zzb6); have zb6_w0 : w.heap.size < w6.heap.size := (by omega); have kcb6_w0 : ∀ o, w6.cell? ⟨w.heap.size, o, none⟩ = _ := fun o => b6.cell (p := ⟨w.heap.size, o, none⟩) (by go_size); have kfb6_w0 : ∀ o, w6.frozen? ⟨w.heap.size, o, none⟩ = _ := fun o => b6.frozen (p := ⟨w.heap.size, o, none⟩) (by go_size); have zb6_w1 : w.heap.size + 1 < w6.heap.size := (by omega); have kcb6_w1 : ∀ o, w6.cell? ⟨w.heap.size + 1, o, none⟩ = _ := fun o => b6.cell (p := ⟨w.heap.size + 1, o, none⟩) (by go_size); have kfb6_w1 : ∀ o, w6.frozen? ⟨w.heap.size + 1, o, none⟩ = _ := fun o => b6.frozen (p := ⟨w.heap.size + 1, o, none⟩) (by go_size); have zb6_w2 : w.heap.size + 2 < w6.heap.size := (by omega); have kcb6_w2 : ∀ o, w6.cell? ⟨w.heap.size + 2, o, none⟩ = _ := fun o => b6.cell (p := ⟨w.heap.size + 2, o, none⟩) (by go_size); have kfb6_w2 : ∀ o, w6.frozen? ⟨w.heap.size + 2, o, none⟩ = _ := fun o => b6.frozen (p := ⟨w.heap.size + 2, o, none⟩) (by go_size); have zb6_g0 : g < w6.heap.size := (by omega); have kcb6_g0 : ∀ o, w6.cell? ⟨g, o, none⟩ = _ := fun o => b6.cell (p := ⟨g, o, none⟩) (by go_size); have kfb6_g0 : ∀ o, w6.frozen? ⟨g, o, none⟩ = _ := fun o => b6.frozen (p := ⟨g, o, none⟩) (by go_size); clear zzb6
                have hmv : (M4.mul ⟨y.a, y.b, y.c, y.d⟩ ⟨y.a, y.b, y.c, y.d⟩).v = P4.v4 (y.mul y) := rfl
                rw [hmv]
                clear hmv
                generalize y.mul y = y2 at *
                simp only [P4.v4]
                go_wp2
                go_roundw
                case rel => exact ⟨A + B, B + B, i / 2, true, z, y2, _, (by go_num), rfl, rfl, by omega, (by go_size), (by go_size), Lib.hid (fun _ => ⟨by omega, HAB.out, HZ.out, (fun _ => HY2.out), HZF.out, HFY.out⟩), Lib.hid (fun e => by cases e), by go_simp, by go_simp, by go_simp, by go_simp, (by intro i; go_simp), by go_simp, by go_simp, by go_simp, by go_simp, (by intro i; go_simp), by go_simp, by go_simp, by go_simp, by go_simp, (by intro i; go_simp), (by repeat' (first | (with_reducible exact Below.refl _ _) | (with_reducible assumption) | (with_reducible refine below_drewN ?_ _) | (with_reducible refine Below.drew ?_) | (with_reducible refine Below.alloc ?_ ?_ _) | (with_reducible refine Below.setCell ?_ ?_ _) | (with_reducible refine Below.trans ?_ (Below.mono (by with_reducible assumption) ?_)) | go_size | (dsimp only; omega))), by go_size⟩
                case measure => (simp [intOf]; omega)
end Go.Proofs.YtlkhhpckgcdeeaaGreatDoor
