/- Runs: the walks. -/
import Derived.Test.YtgpnfjpnbchglaaAE
import Derived.Test.YtgpnfjpnbchglaaAF
import Derived.Deep.RegionHeld3
import Derived.Outline
import Derived.Deep.DeepCutAuto
namespace Go.Proofs.Ytgpnfjpnbchglaa
open Go.RowKit
open Plain (oft Runs)
set_option linter.unusedVariables false
set_option linter.unusedSimpArgs false
attribute [local go_sem] run_min_int4 run_max_int4
attribute [local go_sem] run_equalIn_M
theorem Plain.Runs.inv_stop {t : Bool} {l : List Int} (h : Runs t 1 0 0 1 l) : l = [] := by
  generalize ha : (1 : Int) = a at h
  generalize hb : (0 : Int) = b at h
  cases h
  · rfl
  · rename_i h _; exact absurd ⟨ha.symm, hb.symm, hb.symm, ha.symm⟩ h
  · rename_i h _; exact absurd ⟨ha.symm, hb.symm, hb.symm, ha.symm⟩ h
theorem Plain.Runs.inv_up {t : Bool} {a b c d : Int} {l : List Int} (h : Runs t a b c d l) (ht : t = true) (hi : ¬ (a = 1 ∧ b = 0 ∧ c = 0 ∧ d = 1)) : ∃ l', l = oft a b c d :: l' ∧ Runs false (a - oft a b c d * c) (b - oft a b c d * d) c d l' := by
  subst ht
  cases h
  · exact absurd ⟨rfl, rfl, rfl, rfl⟩ hi
  · exact ⟨_, rfl, ‹_›⟩
theorem Plain.Runs.inv_down {t : Bool} {a b c d : Int} {l : List Int} (h : Runs t a b c d l) (ht : t = false) (hi : ¬ (a = 1 ∧ b = 0 ∧ c = 0 ∧ d = 1)) : ∃ l', l = oft c d a b :: l' ∧ Runs true a b (c - oft c d a b * a) (d - oft c d a b * b) l' := by
  subst ht
  cases h
  · exact absurd ⟨rfl, rfl, rfl, rfl⟩ hi
  · exact ⟨_, rfl, ‹_›⟩
theorem often_c (a b c d : Int) (w : World) (ha0 : 0 ≤ a) (ha1 : a ≤ 1000000000) (hb0 : 0 ≤ b) (hb1 : b ≤ 1000000000) (hc0 : 0 ≤ c) (hc1 : c ≤ 1000000000) (hd0 : 0 ≤ d) (hd1 : d ≤ 1000000000) (hz : ¬ (c = 0 ∧ d = 0)) :
    Calls Try.prog 73 #[.int .i64 a, .int .i64 b, .int .i64 c, .int .i64 d] w fun e w' => e = .returned (.int .i64 (oft a b c d)) ∧ Below w.heap.size w w' := by
  by_cases h1 : c = 0
  · subst h1
    have nz : (d == 0) = false := by simp; omega
    have e : oft a b 0 d = b / d := by simp [oft]
    rw [e]
    clear e
    go_enter Try.func73, Try.ntmps73
    go_wp2
    go_returns
    exact ⟨rfl, (by repeat' (first | (with_reducible exact Below.refl _ _) | (with_reducible assumption) | (with_reducible refine below_drewN ?_ _) | (with_reducible refine Below.drew ?_) | (with_reducible refine Below.alloc ?_ ?_ _) | (with_reducible refine Below.setCell ?_ ?_ _) | (with_reducible refine Below.trans ?_ (Below.mono (by with_reducible assumption) ?_)) | go_size | (dsimp only; omega)))⟩
  · have n1 : (c == 0) = false := by simpa using h1
    by_cases h2 : d = 0
    · subst h2
      have e : oft a b c 0 = a / c := by simp [oft, h1]
      rw [e]
      clear e hz
      go_enter Try.func73, Try.ntmps73
      go_wp2
      go_returns
      exact ⟨rfl, (by repeat' (first | (with_reducible exact Below.refl _ _) | (with_reducible assumption) | (with_reducible refine below_drewN ?_ _) | (with_reducible refine Below.drew ?_) | (with_reducible refine Below.alloc ?_ ?_ _) | (with_reducible refine Below.setCell ?_ ?_ _) | (with_reducible refine Below.trans ?_ (Below.mono (by with_reducible assumption) ?_)) | go_size | (dsimp only; omega)))⟩
    · have n2 : (d == 0) = false := by simpa using h2
      have e : oft a b c d = min (a / c) (b / d) := by simp [oft, h1, h2]
      rw [e]
      have qa := Int.ediv_nonneg ha0 hc0
      have qb := Int.ediv_nonneg hb0 hd0
      have qa1 := Int.ediv_le_self c ha0
      have qb1 := Int.ediv_le_self d hb0
      have wa : IntKind.i64.wrap (a.tdiv c) = a / c := by rw [Int.tdiv_eq_ediv_of_nonneg ha0]; exact IntWalk.i64_in _ (by omega)
      have wb : IntKind.i64.wrap (b.tdiv d) = b / d := by rw [Int.tdiv_eq_ediv_of_nonneg hb0]; exact IntWalk.i64_in _ (by omega)
      generalize a / c = x at *
      generalize b / d = y at *
      clear e hz
      go_enter Try.func73, Try.ntmps73
      go_wp2
      go_region_with (fail)
      all_goals (go_wp2; all_goals (go_returns; exact ⟨ret_int (by omega), (by repeat' (first | (with_reducible exact Below.refl _ _) | (with_reducible assumption) | (with_reducible refine below_drewN ?_ _) | (with_reducible refine Below.drew ?_) | (with_reducible refine Below.alloc ?_ ?_ _) | (with_reducible refine Below.setCell ?_ ?_ _) | (with_reducible refine Below.trans ?_ (Below.mono (by with_reducible assumption) ?_)) | go_size | (dsimp only; omega)))⟩))
theorem own_drew {w : World} {base n size : Nat} {e : TypeId} {v : Value} {xs : List Value} (h : w.ownsRow base e size v n xs) : w.drew.ownsRow base e size v n xs := by
  obtain ⟨h1, h2⟩ := h
  refine ⟨h1, h2.imp id (fun ⟨g, cap, cur, h1, h2, h3, h4⟩ => ⟨g, cap, cur, h1, h2, h3, h4⟩)⟩
theorem own_below {w w' : World} {base n size C : Nat} {e : TypeId} {v : Value} {xs : List Value} (h : w.ownsRow base e size v n xs) (hb : Below C w w') (hc : w.heap.size ≤ C) : w'.ownsRow base e size v n xs := by
  have hlt := h.lt
  obtain ⟨h1, h2⟩ := h
  refine ⟨h1, h2.imp id (fun ⟨g, cap, cur, h1, h2, h3, h4⟩ => ⟨g, cap, cur, h1, h2, ?_, h4⟩)⟩
  rw [hb.block g (by have := (hlt g (by rw [h1]; rfl)).2; omega)]; exact h3
theorem own_form {w : World} {base n size : Nat} {e : TypeId} {v : Value} {xs : List Value} (h : w.ownsRow base e size v n xs) : ∃ a c, v = .slice a n c := by
  rcases h.2 with ⟨h1, h2⟩ | ⟨g, cap, cur, hv, _⟩
  · subst h2; exact ⟨_, _, h1⟩
  · exact ⟨_, _, hv⟩
def isB (a b c d : Int) : Prop := (0 ≤ a ∧ a ≤ 1000000000) ∧ (0 ≤ b ∧ b ≤ 1000000000) ∧ (0 ≤ c ∧ c ≤ 1000000000) ∧ (0 ≤ d ∧ d ≤ 1000000000) ∧ a * d - b * c = 1
theorem isM_pos {a b c d : Int} (h : isM a b c d = true) (hp : posM a b c d = true) : (0 ≤ a ∧ a ≤ 1000000000) ∧ (0 ≤ b ∧ b ≤ 1000000000) ∧ (0 ≤ c ∧ c ≤ 1000000000) ∧ (0 ≤ d ∧ d ≤ 1000000000) ∧ a * d - b * c = 1 := by
  obtain ⟨h1, h2, h3, h4, h5⟩ := isM_iff.mp h
  simp only [posM, decide_eq_true_eq] at hp
  omega
set_option maxRecDepth 100000 in
set_option maxHeartbeats 4000000 in
theorem runs_c (p q r s : Int) (w : World) (zs : List Int) (h : isM p q r s = true) (hp : posM p q r s = true) (hc : Runs true p q r s zs) (hl : zs.length ≤ 4000000001) :
    Calls Try.prog 54 #[.agg #[.int .i64 p, .int .i64 q, .int .i64 r, .int .i64 s]] w fun e w' => ∃ v, e = .returned v ∧ OwnI w.heap.size w' v zs ∧ Below w.heap.size w w' := by
  obtain ⟨i0, hi, hz0, hz1, hz2⟩ := info_parts info_i64
  have hown0 := own_new (w.alloc (Obj.cells #[.int .i64 p, .int .i64 q, .int .i64 r, .int .i64 s] 25)) (w.heap.size + 1) 2 1 (by simp)
  simp only [World.size_alloc] at hown0
  have HC := Lib.hid hc
  have HM := Lib.hid (isM_pos h hp)
  clear hc h hp
  go_enter Try.func54, Try.ntmps54
  go_wp2
  go_loopw [3] (fun v wr => ∃ (a b c d : Int) (n : Nat) (rest : List Int), Hid (isB a b c d) ∧ Hid (Runs (n % 2 == 0) a b c d rest) ∧ n + rest.length = zs.length ∧ Hid (zs.take n ++ rest = zs) ∧
      wr.ownsRow (w.heap.size + 1) 2 1 v n ((zs.take n).map (Value.int .i64)) ∧
      wr.cell? ⟨w.heap.size, 0, none⟩ = some (.int .i64 a) ∧ wr.cell? ⟨w.heap.size, 1, none⟩ = some (.int .i64 b) ∧ wr.cell? ⟨w.heap.size, 2, none⟩ = some (.int .i64 c) ∧ wr.cell? ⟨w.heap.size, 3, none⟩ = some (.int .i64 d) ∧
      (∀ i, wr.frozen? ⟨w.heap.size, i, none⟩ = false) ∧ Below w.heap.size w wr ∧ w.heap.size + 1 < wr.heap.size) (fun v wr => zs.length - lenOf v)
  case atStart => exact ⟨p, q, r, s, 0, zs, HM.out, HC.out, by omega, Lib.hid (by simp), by simpa using hown0, by go_cell, by go_cell, by go_cell, by go_cell, (by intro i; first | (simp; done) | (go_simp; done)), (by repeat' (first | (with_reducible exact Below.refl _ _) | (with_reducible assumption) | (with_reducible refine below_drewN ?_ _) | (with_reducible refine Below.drew ?_) | (with_reducible refine Below.alloc ?_ ?_ _) | (with_reducible refine Below.setCell ?_ ?_ _) | (with_reducible refine Below.trans ?_ (Below.mono (by with_reducible assumption) ?_)) | go_size | (dsimp only; omega))), by simp⟩
  case round =>
    obtain ⟨a, b, c, d, n, rest, HM2, HC2, hn, HT, hown, c0, c1, c2, c3, fw, hB, hsz⟩ := hrel
    clear hown0
    have hlen := lenOf_row hown
    have HLEN := Lib.hid hlen
    clear hlen
    obtain ⟨⟨ha0, ha1⟩, ⟨hb0, hb1⟩, ⟨hc0, hc1⟩, ⟨hd0, hd1⟩, hdet⟩ := HM2.out
    have hdr := Plain.det_row hdet
    have HD := Lib.hid hdet
    have HDR := Lib.hid hdr
    clear hdet hdr
    have hw : w.heap.size < wr.heap.size := by omega
    by_cases hI : a = 1 ∧ b = 0 ∧ c = 0 ∧ d = 1
    · obtain ⟨rfl, rfl, rfl, rfl⟩ := hI
      obtain rfl := HC2.out.inv_stop
      go_wp2_with fail
      go_region_held3 (fun w' => w'.cell? ⟨w.heap.size, 0, none⟩ = some (.int .i64 1) ∧ w'.cell? ⟨w.heap.size, 1, none⟩ = some (.int .i64 0) ∧ w'.cell? ⟨w.heap.size, 2, none⟩ = some (.int .i64 0) ∧ w'.cell? ⟨w.heap.size, 3, none⟩ = some (.int .i64 1)) (go_keep) ((go_at_call 69; refine (identity_c _).mono ?_; rintro e w3 ⟨rfl, hb⟩; have zzhb := hb.size; (try simp at zzhb); have zhb_0 : w.heap.size < w3.heap.size := (by omega); have kchb_0 : ∀ o, w3.cell? ⟨w.heap.size, o, none⟩ = _ := fun o => hb.cell (p := ⟨w.heap.size, o, none⟩) (by go_size); have kfhb_0 : ∀ o, w3.frozen? ⟨w.heap.size, o, none⟩ = _ := fun o => hb.frozen (p := ⟨w.heap.size, o, none⟩) (by go_size); clear zzhb))
      go_wp2
      have e1 : n = zs.length := hn
      have e2 : (zs.take n) = zs := by simpa using HT.out
      rw [e2, e1] at hown
      have hown3 := own_below (own_drew hown) hb (Nat.le_refl _)
      exact bodyPost_ret (v := _) (by simp only [results, Try.results54]; go_simp) rfl ⟨_, rfl, OwnI.base (OwnI.of_row hown3) (by omega), (by repeat' (first | (with_reducible exact Below.refl _ _) | (with_reducible assumption) | (with_reducible refine below_drewN ?_ _) | (with_reducible refine Below.drew ?_) | (with_reducible refine Below.alloc ?_ ?_ _) | (with_reducible refine Below.setCell ?_ ?_ _) | (with_reducible refine Below.trans ?_ (Below.mono (by with_reducible assumption) ?_)) | go_size | (dsimp only; omega)))⟩
    · have hI' : (a == 1 && (b == 0 && (c == 0 && d == 1))) = false := by simpa using hI
      by_cases hpar : n % 2 = 0
      · obtain ⟨l, rfl, hc3⟩ := HC2.out.inv_up (by simp; omega) hI
        obtain ⟨o1, o2, o3, o4⟩ := Plain.oft_spec ha0 hb0 hc0 hd0 HDR.out.1
        have hd2 := Plain.det_up (oft a b c d) HD.out
        generalize hq : oft a b c d = k at *
        have HQ := Lib.hid hq
        have kc0 : 0 ≤ k * c := Int.mul_nonneg o1 hc0
        have kd0 : 0 ≤ k * d := Int.mul_nonneg o1 hd0
        have hN : isB (a - k * c) (b - k * d) c d := ⟨⟨o2, by omega⟩, ⟨o3, by omega⟩, ⟨hc0, hc1⟩, ⟨hd0, hd1⟩, hd2⟩
        have HN := Lib.hid hN
        have HC3 := Lib.hid hc3
        clear hq hN hc3 hd2 o4
        have e1 : (n : Int) % 2 = 0 := by omega
        go_wp2_with fail
        go_region_held3 (fun w' => w'.cell? ⟨w.heap.size, 0, none⟩ = some (.int .i64 a) ∧ w'.cell? ⟨w.heap.size, 1, none⟩ = some (.int .i64 b) ∧ w'.cell? ⟨w.heap.size, 2, none⟩ = some (.int .i64 c) ∧ w'.cell? ⟨w.heap.size, 3, none⟩ = some (.int .i64 d)) (go_keep) ((go_at_call 69; refine (identity_c _).mono ?_; rintro e w3 ⟨rfl, hb⟩; have zzhb := hb.size; (try simp at zzhb); have zhb_0 : w.heap.size < w3.heap.size := (by omega); have kchb_0 : ∀ o, w3.cell? ⟨w.heap.size, o, none⟩ = _ := fun o => hb.cell (p := ⟨w.heap.size, o, none⟩) (by go_size); have kfhb_0 : ∀ o, w3.frozen? ⟨w.heap.size, o, none⟩ = _ := fun o => hb.frozen (p := ⟨w.heap.size, o, none⟩) (by go_size); clear zzhb))
        have hown3 := own_below (own_drew hown) hb (Nat.le_refl _)
        have hB3 : Below w.heap.size w w3 := (by repeat' (first | (with_reducible exact Below.refl _ _) | (with_reducible assumption) | (with_reducible refine below_drewN ?_ _) | (with_reducible refine Below.drew ?_) | (with_reducible refine Below.alloc ?_ ?_ _) | (with_reducible refine Below.setCell ?_ ?_ _) | (with_reducible refine Below.trans ?_ (Below.mono (by with_reducible assumption) ?_)) | go_size | (dsimp only; omega)))
        obtain ⟨xa, xc, rfl⟩ := own_form hown
        go_wp2_with fail
        refine (often_c a b c d _ ha0 ha1 hb0 hb1 hc0 hc1 hd0 hd1 HDR.out.1).mono ?_
        rintro e w4 ⟨rfl, b4⟩
        rw [HQ.out]
        have hown4 := own_below hown3 b4 (Nat.le_refl _)
        have zzb4 := b4.size; (try simp at zzb4); have zb4_0 : w.heap.size < w4.heap.size := (by omega); have kcb4_0 : ∀ o, w4.cell? ⟨w.heap.size, o, none⟩ = _ := fun o => b4.cell (p := ⟨w.heap.size, o, none⟩) (by go_size); have kfb4_0 : ∀ o, w4.frozen? ⟨w.heap.size, o, none⟩ = _ := fun o => b4.frozen (p := ⟨w.heap.size, o, none⟩) (by go_size); clear zzb4
        have hB4 : Below w.heap.size w w4 := (by repeat' (first | (with_reducible exact Below.refl _ _) | (with_reducible assumption) | (with_reducible refine below_drewN ?_ _) | (with_reducible refine Below.drew ?_) | (with_reducible refine Below.alloc ?_ ?_ _) | (with_reducible refine Below.setCell ?_ ?_ _) | (with_reducible refine Below.trans ?_ (Below.mono (by with_reducible assumption) ?_)) | go_size | (dsimp only; omega)))
        have hs4 : w.heap.size + 1 < w4.heap.size := by have h1 := hb.size; have h2 := b4.size; simp at h1; omega
        have HPAR := Lib.hid hpar
        clear hpar e1 hI hI' hown hB hown3 hB3
        have m0 : -1000000000 ≤ k * c ∧ k * c ≤ 1000000000 := by omega
        have m1 : -1000000000 ≤ k * d ∧ k * d ≤ 1000000000 := by omega
        obtain ⟨m00, m01⟩ := m0
        obtain ⟨m10, m11⟩ := m1
        go_upto_region 9 with fail
        generalize hw5 : World.setCell _ _ _ = w5
        have hown5 : w5.ownsRow (w.heap.size + 1) 2 1 (.slice xa n xc) n ((zs.take n).map (Value.int .i64)) := by subst hw5; exact own_set (own_set (own_set (own_set hown4 (by dsimp only; omega)) (by dsimp only; omega)) (by dsimp only; omega)) (by dsimp only; omega)
        have hB5 : Below w.heap.size w w5 := by subst hw5; exact (by repeat' (first | (with_reducible exact Below.refl _ _) | (with_reducible assumption) | (with_reducible refine below_drewN ?_ _) | (with_reducible refine Below.drew ?_) | (with_reducible refine Below.alloc ?_ ?_ _) | (with_reducible refine Below.setCell ?_ ?_ _) | (with_reducible refine Below.trans ?_ (Below.mono (by with_reducible assumption) ?_)) | go_size | (dsimp only; omega)))
        have hs5 : w.heap.size + 1 < w5.heap.size := by subst hw5; go_size
        have d0 : w5.cell? ⟨w.heap.size, 0, none⟩ = some (.int .i64 (a - k * c)) := by subst hw5; go_simp
        have d1 : w5.cell? ⟨w.heap.size, 1, none⟩ = some (.int .i64 (b - k * d)) := by subst hw5; go_simp
        have d2 : w5.cell? ⟨w.heap.size, 2, none⟩ = some (.int .i64 (c)) := by subst hw5; go_simp
        have d3 : w5.cell? ⟨w.heap.size, 3, none⟩ = some (.int .i64 (d)) := by subst hw5; go_simp
        have fw5 : ∀ i, w5.frozen? ⟨w.heap.size, i, none⟩ = false := by subst hw5; intro i; go_simp
        clear hw5 kcb4_0 kfb4_0 kchb_0 kfhb_0 c0 c1 c2 c3 fw b4 hb hown4 hB4
        go_wp2_with (at_builtin; refine wpList_append_own _ rfl _ _ 27 rfl (w.heap.size + 1) 2 i0 (.int .i64 0) 1 8 under_i64s hi hz0 hz1 hz2 rfl (by decide) _ _ _ rfl (hown5.alloc _) ⟨w5.heap.size, 0, none⟩ 1 1 [.int .i64 k] rfl rfl (cell_one_new _ _ _) (fun x hx => by simp at hx; subst hx; rfl) (by unfold maxLen; omega) (by omega) (by simp; omega) ?_; intro v' w6 hown6 hgrow6 hnil6; obtain ⟨hB6, hs6, fc6, ff6⟩ := app_after hown5 hgrow6 hB5 (by omega) (by omega); have fc := fun o => fc6 w.heap.size o (by omega); have ff := fun o => ff6 w.heap.size o (by omega); clear fc6 ff6 hgrow6 hnil6)
        go_roundw
        case rel => exact ⟨_, _, _, _, n + 1, l, HN.out, by rw [show ((n + 1) % 2 == 0) = false from by have := HPAR.out; simp; omega]; exact HC3.out, by simp at hn; omega, own_step1 HT.out, own_step2 HT.out hown6, by rw [fc]; exact d0, by rw [fc]; exact d1, by rw [fc]; exact d2, by rw [fc]; exact d3, (by intro i; rw [ff]; exact fw5 i), hB6, by omega⟩
        case measure => (have e1 := lenOf_row hown6; have e2 := HLEN.out; simp at hn; omega)
      · obtain ⟨l, rfl, hc3⟩ := HC2.out.inv_down (by simp; omega) hI
        obtain ⟨o1, o2, o3, o4⟩ := Plain.oft_spec hc0 hd0 ha0 hb0 HDR.out.2
        have hd2 := Plain.det_down (oft c d a b) HD.out
        generalize hq : oft c d a b = k at *
        have HQ := Lib.hid hq
        have kc0 : 0 ≤ k * a := Int.mul_nonneg o1 ha0
        have kd0 : 0 ≤ k * b := Int.mul_nonneg o1 hb0
        have hN : isB a b (c - k * a) (d - k * b) := ⟨⟨ha0, ha1⟩, ⟨hb0, hb1⟩, ⟨o2, by omega⟩, ⟨o3, by omega⟩, hd2⟩
        have HN := Lib.hid hN
        have HC3 := Lib.hid hc3
        clear hq hN hc3 hd2 o4
        have e1 : (n : Int) % 2 = 1 := by omega
        go_wp2_with fail
        go_region_held3 (fun w' => w'.cell? ⟨w.heap.size, 0, none⟩ = some (.int .i64 a) ∧ w'.cell? ⟨w.heap.size, 1, none⟩ = some (.int .i64 b) ∧ w'.cell? ⟨w.heap.size, 2, none⟩ = some (.int .i64 c) ∧ w'.cell? ⟨w.heap.size, 3, none⟩ = some (.int .i64 d)) (go_keep) ((go_at_call 69; refine (identity_c _).mono ?_; rintro e w3 ⟨rfl, hb⟩; have zzhb := hb.size; (try simp at zzhb); have zhb_0 : w.heap.size < w3.heap.size := (by omega); have kchb_0 : ∀ o, w3.cell? ⟨w.heap.size, o, none⟩ = _ := fun o => hb.cell (p := ⟨w.heap.size, o, none⟩) (by go_size); have kfhb_0 : ∀ o, w3.frozen? ⟨w.heap.size, o, none⟩ = _ := fun o => hb.frozen (p := ⟨w.heap.size, o, none⟩) (by go_size); clear zzhb))
        have hown3 := own_below (own_drew hown) hb (Nat.le_refl _)
        have hB3 : Below w.heap.size w w3 := (by repeat' (first | (with_reducible exact Below.refl _ _) | (with_reducible assumption) | (with_reducible refine below_drewN ?_ _) | (with_reducible refine Below.drew ?_) | (with_reducible refine Below.alloc ?_ ?_ _) | (with_reducible refine Below.setCell ?_ ?_ _) | (with_reducible refine Below.trans ?_ (Below.mono (by with_reducible assumption) ?_)) | go_size | (dsimp only; omega)))
        obtain ⟨xa, xc, rfl⟩ := own_form hown
        go_wp2_with fail
        refine (often_c c d a b _ hc0 hc1 hd0 hd1 ha0 ha1 hb0 hb1 HDR.out.2).mono ?_
        rintro e w4 ⟨rfl, b4⟩
        rw [HQ.out]
        have hown4 := own_below hown3 b4 (Nat.le_refl _)
        have zzb4 := b4.size; (try simp at zzb4); have zb4_0 : w.heap.size < w4.heap.size := (by omega); have kcb4_0 : ∀ o, w4.cell? ⟨w.heap.size, o, none⟩ = _ := fun o => b4.cell (p := ⟨w.heap.size, o, none⟩) (by go_size); have kfb4_0 : ∀ o, w4.frozen? ⟨w.heap.size, o, none⟩ = _ := fun o => b4.frozen (p := ⟨w.heap.size, o, none⟩) (by go_size); clear zzb4
        have hB4 : Below w.heap.size w w4 := (by repeat' (first | (with_reducible exact Below.refl _ _) | (with_reducible assumption) | (with_reducible refine below_drewN ?_ _) | (with_reducible refine Below.drew ?_) | (with_reducible refine Below.alloc ?_ ?_ _) | (with_reducible refine Below.setCell ?_ ?_ _) | (with_reducible refine Below.trans ?_ (Below.mono (by with_reducible assumption) ?_)) | go_size | (dsimp only; omega)))
        have hs4 : w.heap.size + 1 < w4.heap.size := by have h1 := hb.size; have h2 := b4.size; simp at h1; omega
        have HPAR := Lib.hid hpar
        clear hpar e1 hI hI' hown hB hown3 hB3
        have m0 : -1000000000 ≤ k * a ∧ k * a ≤ 1000000000 := by omega
        have m1 : -1000000000 ≤ k * b ∧ k * b ≤ 1000000000 := by omega
        obtain ⟨m00, m01⟩ := m0
        obtain ⟨m10, m11⟩ := m1
        go_upto_region 9 with fail
        generalize hw5 : World.setCell _ _ _ = w5
        have hown5 : w5.ownsRow (w.heap.size + 1) 2 1 (.slice xa n xc) n ((zs.take n).map (Value.int .i64)) := by subst hw5; exact own_set (own_set (own_set (own_set hown4 (by dsimp only; omega)) (by dsimp only; omega)) (by dsimp only; omega)) (by dsimp only; omega)
        have hB5 : Below w.heap.size w w5 := by subst hw5; exact (by repeat' (first | (with_reducible exact Below.refl _ _) | (with_reducible assumption) | (with_reducible refine below_drewN ?_ _) | (with_reducible refine Below.drew ?_) | (with_reducible refine Below.alloc ?_ ?_ _) | (with_reducible refine Below.setCell ?_ ?_ _) | (with_reducible refine Below.trans ?_ (Below.mono (by with_reducible assumption) ?_)) | go_size | (dsimp only; omega)))
        have hs5 : w.heap.size + 1 < w5.heap.size := by subst hw5; go_size
        have d0 : w5.cell? ⟨w.heap.size, 0, none⟩ = some (.int .i64 (a)) := by subst hw5; go_simp
        have d1 : w5.cell? ⟨w.heap.size, 1, none⟩ = some (.int .i64 (b)) := by subst hw5; go_simp
        have d2 : w5.cell? ⟨w.heap.size, 2, none⟩ = some (.int .i64 (c - k * a)) := by subst hw5; go_simp
        have d3 : w5.cell? ⟨w.heap.size, 3, none⟩ = some (.int .i64 (d - k * b)) := by subst hw5; go_simp
        have fw5 : ∀ i, w5.frozen? ⟨w.heap.size, i, none⟩ = false := by subst hw5; intro i; go_simp
        clear hw5 kcb4_0 kfb4_0 kchb_0 kfhb_0 c0 c1 c2 c3 fw b4 hb hown4 hB4
        go_wp2_with (at_builtin; refine wpList_append_own _ rfl _ _ 27 rfl (w.heap.size + 1) 2 i0 (.int .i64 0) 1 8 under_i64s hi hz0 hz1 hz2 rfl (by decide) _ _ _ rfl (hown5.alloc _) ⟨w5.heap.size, 0, none⟩ 1 1 [.int .i64 k] rfl rfl (cell_one_new _ _ _) (fun x hx => by simp at hx; subst hx; rfl) (by unfold maxLen; omega) (by omega) (by simp; omega) ?_; intro v' w6 hown6 hgrow6 hnil6; obtain ⟨hB6, hs6, fc6, ff6⟩ := app_after hown5 hgrow6 hB5 (by omega) (by omega); have fc := fun o => fc6 w.heap.size o (by omega); have ff := fun o => ff6 w.heap.size o (by omega); clear fc6 ff6 hgrow6 hnil6)
        go_roundw
        case rel => exact ⟨_, _, _, _, n + 1, l, HN.out, by rw [show ((n + 1) % 2 == 0) = true from by have := HPAR.out; simp; omega]; exact HC3.out, by simp at hn; omega, own_step1 HT.out, own_step2 HT.out hown6, by rw [fc]; exact d0, by rw [fc]; exact d1, by rw [fc]; exact d2, by rw [fc]; exact d3, (by intro i; rw [ff]; exact fw5 i), hB6, by omega⟩
        case measure => (have e1 := lenOf_row hown6; have e2 := HLEN.out; simp at hn; omega)
end Go.Proofs.Ytgpnfjpnbchglaa
