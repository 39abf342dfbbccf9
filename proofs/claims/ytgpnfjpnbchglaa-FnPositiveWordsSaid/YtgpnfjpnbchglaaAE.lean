/- Chains: the walks. -/
import Derived.Test.YtgpnfjpnbchglaaAA
import Derived.Test.YtgpnfjpnbchglaaAD
import Derived.Test.YtgpnfjpnbchglaaB
import Derived.Test.YtgpnfjpnbchglaaW
import Derived.Deep.RegionHeld3
import Derived.Deep.AppendLies
import Derived.Deep.DrawnRows
import Derived.IntWalk
namespace Go.Proofs.Ytgpnfjpnbchglaa
open Go.RowKit
open Plain (flo Chain)
set_option linter.unusedVariables false
set_option linter.unusedSimpArgs false
theorem tdiv_bd2 (a b A : Int) (h0 : -A ≤ a) (h1 : a ≤ A) : -A ≤ a.tdiv b ∧ a.tdiv b ≤ A := by
  have := Int.natAbs_tdiv_le_natAbs a b
  omega
theorem flo_bd (a b : Int) (ha0 : -4000000000000 ≤ a) (ha1 : a ≤ 4000000000000) : -4000000000001 ≤ flo a b ∧ flo a b ≤ 4000000000000 := by
  obtain ⟨t0, t1⟩ := tdiv_bd2 a b 4000000000000 ha0 ha1
  unfold flo
  split <;> omega
theorem flo_neg_neg (a b : Int) (hb : b < 0) : flo (-a) (-b) = flo a b := by
  unfold flo
  have e1 : (-a).tmod (-b) = -(a.tmod b) := by rw [Int.neg_tmod, Int.tmod_neg]
  have e2 : (-a).tdiv (-b) = a.tdiv b := by rw [Int.neg_tdiv_neg]
  have h1 := Int.tmod_nonneg (a := a) b
  by_cases h0 : a = 0
  · subst h0; simp
  · rw [e1, e2]
    by_cases h2 : a.tmod b = 0
    · rw [if_neg (by simp [h2]), if_neg (by simp [h2])]
    · by_cases h3 : a < 0
      · rw [if_neg (by omega), if_neg (by omega)]
      · rw [if_pos (by omega), if_pos (by omega)]
theorem own_step1 {zs l : List Int} {x : Int} {n : Nat} (h1 : zs.take n ++ x :: l = zs) : Hid (zs.take (n + 1) ++ l = zs) := by
  apply Lib.hid
  by_cases hn : n < zs.length
  · have e : zs[n] = x := by
      have := congrArg (fun t : List Int => t[n]?) h1
      simp [List.getElem?_append, hn, Nat.le_of_lt hn] at this
      exact this.symm
    rw [List.take_succ_eq_append_getElem hn, e, List.append_assoc]; exact h1
  · have := congrArg List.length h1
    simp at this; omega
theorem own_step2 {w : World} {base n : Nat} {v : Value} {e : TypeId} {zs l : List Int} {x : Int} (h1 : zs.take n ++ x :: l = zs) (h : w.ownsRow base e 1 v (n + 1) ((zs.take n).map (Value.int .i64) ++ [.int .i64 x])) : w.ownsRow base e 1 v (n + 1) ((zs.take (n + 1)).map (Value.int .i64)) := by
  have e2 : (zs.take n).map (Value.int .i64) ++ [.int .i64 x] = (zs.take (n + 1)).map (Value.int .i64) := by
    by_cases hn : n < zs.length
    · have e : zs[n] = x := by
        have := congrArg (fun t : List Int => t[n]?) h1
        simp [List.getElem?_append, hn, Nat.le_of_lt hn] at this
        exact this.symm
      rw [List.take_succ_eq_append_getElem hn, e]; simp
    · have := congrArg List.length h1
      simp at this; omega
  rw [e2] at h; exact h
theorem own_end {w : World} {base n g cap : Nat} {e : TypeId} {zs : List Int} {x : Int} (h1 : zs.take n ++ [x] = zs) (h2 : n + [x].length = zs.length) (h : w.ownsRow base e 1 (.slice (some ⟨g, 0, none⟩) (n + 1) cap) (n + 1) ((zs.take n).map (Value.int .i64) ++ [.int .i64 x])) : w.ownsRow base e 1 (.slice (some ⟨g, 0, none⟩) (n + 1) cap) zs.length (zs.map (Value.int .i64)) := by
  have e1 : n + 1 = zs.length := h2
  have e2 : (zs.take n).map (Value.int .i64) ++ [.int .i64 x] = zs.map (Value.int .i64) := by rw [← congrArg (List.map (Value.int .i64)) h1]; simp
  rw [e2] at h; rw [← e1]; exact h
theorem floor_c (a b : Int) (w : World) (hb : b ≠ 0) (ha0 : -4000000000000 ≤ a) (ha1 : a ≤ 4000000000000) (hb0 : -4000000000000 ≤ b) (hb1 : b ≤ 4000000000000) :
    Calls Try.prog 64 #[.int .i64 a, .int .i64 b] w fun e w' => e = .returned (.int .i64 (flo a b)) ∧ w = w' := by
  obtain ⟨t0, t1⟩ := tdiv_bd2 a b 4000000000000 ha0 ha1
  have nz : (b == 0) = false := by simpa using hb
  cases h1 : (a.tmod b == 0) <;> cases h2 : decide (a < 0) <;> cases h3 : decide (b < 0)
  all_goals
    have h1' := Lib.hid h1
    go_enter Try.func64, Try.ntmps64
    go_wp2
    all_goals (go_ret; exact ⟨ret_int (by have e := h1'.out; simp at e h2 h3; unfold flo; split <;> omega), rfl⟩)
theorem l02Floor_c (a b : Int) (w : World) (hb : b ≠ 0) (ha0 : -4000000000000 ≤ a) (ha1 : a ≤ 4000000000000) (hb0 : -4000000000000 ≤ b) (hb1 : b ≤ 4000000000000) :
    Calls Try.prog 66 #[.int .i64 a, .int .i64 b] w fun e w' => e = .returned (.int .i64 (flo a b)) ∧ w = w' := by
  have pos : ∀ a b : Int, 0 < b → (a.tmod b < 0 → flo a b = a.tdiv b - 1) ∧ (¬ a.tmod b < 0 → flo a b = a.tdiv b) := by
    intro a b hb
    have h4 : 0 ≤ a → 0 ≤ a.tmod b := fun h => Int.tmod_nonneg b h
    have h5 : a ≤ 0 → a.tmod b ≤ 0 := fun h => by
      have := Int.tmod_nonneg (a := -a) b (by omega)
      rw [Int.neg_tmod] at this; omega
    unfold flo
    split <;> omega
  by_cases h0 : b < 0
  · have h0' : decide (b < 0) = true := decide_eq_true h0
    obtain ⟨p1, p2⟩ := pos (-a) (-b) (by omega)
    rw [flo_neg_neg a b h0, Int.neg_tmod, Int.tmod_neg, Int.neg_tdiv_neg] at p1 p2
    obtain ⟨t0, t1⟩ := tdiv_bd2 a b 4000000000000 (by omega) (by omega)
    have nz : (-b == 0) = false := by simp; omega
    have P1 := Lib.hid p1
    have P2 := Lib.hid p2
    clear pos p1 p2 h0
    go_enter Try.func66, Try.ntmps66
    go_wp2
    all_goals (go_ret; exact ⟨ret_int (by first | exact (P1.out (by first | assumption | omega)).symm | exact (P2.out (by first | assumption | omega)).symm), rfl⟩)
  · have h0' : decide (b < 0) = false := decide_eq_false h0
    obtain ⟨p1, p2⟩ := pos a b (by omega)
    obtain ⟨t0, t1⟩ := tdiv_bd2 a b 4000000000000 (by omega) (by omega)
    have nz : (b == 0) = false := by simp; omega
    have P1 := Lib.hid p1
    have P2 := Lib.hid p2
    clear pos p1 p2 h0
    go_enter Try.func66, Try.ntmps66
    go_wp2
    all_goals (go_ret; exact ⟨ret_int (by first | exact (P1.out (by first | assumption | omega)).symm | exact (P2.out (by first | assumption | omega)).symm), rfl⟩)
set_option maxRecDepth 100000 in
set_option maxHeartbeats 4000000 in
theorem chain_c (p q r s : Int) (w : World) (zs : List Int) (sg : Int) (h : isM p q r s = true) (hc : Chain p q r s sg zs) (hl : zs.length ≤ 1000000001) :
    Calls Try.prog 34 #[.agg #[.int .i64 p, .int .i64 q, .int .i64 r, .int .i64 s]] w fun e w' => ∃ v, e = .returned (.tuple #[.int .i64 sg, v]) ∧ OwnI w.heap.size w' v zs ∧ Below w.heap.size w w' := by
  obtain ⟨i0, hi, hz0, hz1, hz2⟩ := info_parts info_i64
  have hown0 := own_new (w.alloc (Obj.cells #[.int .i64 p, .int .i64 q, .int .i64 r, .int .i64 s] 25)) (w.heap.size + 1) 2 1 (by simp)
  simp only [World.size_alloc] at hown0
  have HC := Lib.hid hc
  have HM := Lib.hid h
  clear hc h
  go_enter Try.func34, Try.ntmps34
  go_wp2
  go_loopw [4] (fun v wr => ∃ (a b c d : Int) (n : Nat) (rest : List Int), Hid (isM a b c d = true) ∧ Hid (Chain a b c d sg rest) ∧ n + rest.length = zs.length ∧ Hid (zs.take n ++ rest = zs) ∧
      wr.ownsRow (w.heap.size + 1) 2 1 v n ((zs.take n).map (Value.int .i64)) ∧ 
      wr.cell? ⟨w.heap.size, 0, none⟩ = some (.int .i64 a) ∧ wr.cell? ⟨w.heap.size, 1, none⟩ = some (.int .i64 b) ∧ wr.cell? ⟨w.heap.size, 2, none⟩ = some (.int .i64 c) ∧ wr.cell? ⟨w.heap.size, 3, none⟩ = some (.int .i64 d) ∧
      (∀ i, wr.frozen? ⟨w.heap.size, i, none⟩ = false) ∧ Below w.heap.size w wr ∧ w.heap.size + 1 < wr.heap.size) (fun v wr => zs.length - lenOf v)
  case atStart => exact ⟨p, q, r, s, 0, zs, HM.out, HC.out, by omega, Lib.hid (by simp), by simpa using hown0, by go_cell, by go_cell, by go_cell, by go_cell, (by intro i; first | (simp; done) | (go_simp; done)), (by repeat' (first | (with_reducible exact Below.refl _ _) | (with_reducible assumption) | (with_reducible refine below_drewN ?_ _) | (with_reducible refine Below.drew ?_) | (with_reducible refine Below.alloc ?_ ?_ _) | (with_reducible refine Below.setCell ?_ ?_ _) | (with_reducible refine Below.trans ?_ (Below.mono (by with_reducible assumption) ?_)) | go_size | (dsimp only; omega))), by simp⟩
  case round =>
    obtain ⟨a, b, c, d, n, rest, HM2, HC2, hn, HT, hown, c0, c1, c2, c3, fw, hB, hsz⟩ := hrel
    clear hown0
    have hlen := lenOf_row hown
    have HLEN := Lib.hid hlen
    clear hlen
    obtain ⟨⟨ha0, ha1⟩, ⟨hb0, hb1⟩, ⟨hc0, hc1⟩, ⟨hd0, hd1⟩, hdet⟩ := isM_iff.mp HM2.out
    have HD := Lib.hid hdet
    clear hdet
    by_cases hz : c = 0
    · subst hz
      obtain ⟨rfl, rfl⟩ : sg = a ∧ rest = [a * b] := by
        cases HC2.out
        · exact ⟨rfl, rfl⟩
        · exact absurd rfl ‹_›
      have hab := ent_mul (x := sg) (y := b) (ent_iff.mpr ⟨ha0, ha1⟩) (ent_iff.mpr ⟨hb0, hb1⟩)
      obtain ⟨ab0, ab1⟩ := hab
      have hwr : IntKind.i64.wrap (sg * b) = sg * b := IntWalk.i64_in _ (by omega)
      go_wp2
      go_region_held3 (fun w' => w'.cell? ⟨w.heap.size, 0, none⟩ = some (.int .i64 sg) ∧ w'.cell? ⟨w.heap.size, 1, none⟩ = some (.int .i64 b)) (first | go_keep | (go_split_ands; refine ⟨?_, ?_⟩ <;> (rw [hgrow.cell_far _ (by simp; omega) (by intro e; have := hown.lt _ e.symm; dsimp only at this; omega)]; assumption)))
        ((refine step_append_lies _ (by rfl) _ _ _ (by rfl) (w.heap.size + 1) 2 i0 _ 1 8 under_i64s hi hz0 hz1 hz2 rfl (by omega) _ n ((zs.take n).map (Value.int .i64)) (by rfl) ((hown.alloc _).drew) ⟨wr.heap.size, 0, none⟩ 1 1 [.int .i64 (sg * b)] (by rfl) (by rfl) (World.news_of_block (cs := #[.int .i64 (sg * b)]) (t := 2) (fr := (0, 0)) (heap_alloc_new wr _)) (by simp [Value.oneCell']) (by omega) (by unfold maxLen; omega) (by omega) (by simp; omega) (wr.heap.size + 1) (by simp) ?_; intro gg cap w3 hown3 hgrow hat hlt))
      go_wp2
      have hB3 : Below w.heap.size w w3 := Below.grown (Below.drew (Below.alloc hB (by omega) _)) hgrow (by simp; omega) (fun k hk => by have := (hown.lt k hk).1; omega)
      have ho3 := own_end HT.out hn hown3
      exact bodyPost_ret (v := .tuple #[.int .i64 sg, .slice (some ⟨gg, 0, none⟩) (n + 1) cap]) (by simp only [results, Try.results34]; go_simp) rfl ⟨_, rfl, OwnI.base (OwnI.of_row ho3) (by omega), hB3⟩
    · have hz' : (c == 0) = false := by simpa using hz
      have hz'' : (c != 0) = true := by simpa using hz
      obtain ⟨l, rfl, hc3⟩ : ∃ l, rest = flo (2 * a + c) (2 * c) :: l ∧ Chain c d (flo (2 * a + c) (2 * c) * c - a) (flo (2 * a + c) (2 * c) * d - b) sg l := by
        cases HC2.out
        · exact absurd rfl hz
        · exact ⟨_, rfl, ‹_›⟩
      obtain ⟨f0, f1⟩ := flo_bd (2 * a + c) (2 * c) (by omega) (by omega)
      have rb := Plain.round_bd a c hz
      have rd := Plain.round_det a b c d (flo (2 * a + c) (2 * c)) HD.out
      have rdd := Plain.round_d c d _ _ hz rb.1 rb.2 rd hd0 hd1
      generalize hq : flo (2 * a + c) (2 * c) = qq at *
      have HQ := Lib.hid hq
      clear hq
      have HC3 := Lib.hid hc3
      have hM3 : isM c d (qq * c - a) (qq * d - b) = true := isM_iff.mpr ⟨⟨hc0, hc1⟩, ⟨hd0, hd1⟩, by omega, rdd, rd⟩
      have HM3 := Lib.hid hM3
      have qc : -4000000000 ≤ qq * c ∧ qq * c ≤ 4000000000 := by omega
      have qd : -4000000000 ≤ qq * d ∧ qq * d ≤ 4000000000 := by omega
      clear hc3 hM3 rd rb rdd
      obtain ⟨qc0, qc1⟩ := qc
      obtain ⟨qd0, qd1⟩ := qd
      go_wp2_with fail
      refine (floor_c _ _ _ (by omega) (by omega) (by omega) (by omega) (by omega)).mono ?_
      rintro e w' ⟨rfl, rfl⟩
      rw [HQ.out]
      go_wp2_with (at_builtin; refine wpList_append_own _ rfl _ _ 27 rfl (w.heap.size + 1) 2 i0 (.int .i64 0) 1 8 under_i64s hi hz0 hz1 hz2 rfl (by decide) _ _ _ rfl (hown.alloc _) ⟨wr.heap.size, 0, none⟩ 1 1 [.int .i64 qq] rfl rfl (cell_one_new _ _ _) (fun x hx => by simp at hx; subst hx; rfl) (by unfold maxLen; omega) (by omega) (by simp; omega) ?_; intro v' w3 hown3 hgrow3 hnil3; obtain ⟨hB3, hs3, fc3, ff3⟩ := app_after hown hgrow3 hB (by omega) (by omega); have fc := fun o => fc3 w.heap.size o (by omega); have ff := fun o => ff3 w.heap.size o (by omega); clear fc3 ff3 hgrow3 hnil3)
      go_roundw
      case rel => exact ⟨c, d, qq * c - a, qq * d - b, n + 1, l, HM3.out, HC3.out, by simp at hn; omega, own_step1 HT.out, (by (repeat (with_reducible refine own_set ?_ (by dsimp only; omega))); exact own_step2 HT.out hown3), by go_simp, by go_simp, by go_simp, by go_simp, (by intro i; go_simp), (by repeat' (first | (with_reducible exact Below.refl _ _) | (with_reducible assumption) | (with_reducible refine below_drewN ?_ _) | (with_reducible refine Below.drew ?_) | (with_reducible refine Below.alloc ?_ ?_ _) | (with_reducible refine Below.setCell ?_ ?_ _) | (with_reducible refine Below.trans ?_ (Below.mono (by with_reducible assumption) ?_)) | go_size | (dsimp only; omega))), by go_size⟩
      case measure => (have e1 := lenOf_row hown3; have e2 := HLEN.out; simp at hn; omega)
set_option maxRecDepth 100000 in
set_option maxHeartbeats 4000000 in
theorem l02Chain_c (p q r s : Int) (w : World) (zs : List Int) (sg : Int) (h : isM p q r s = true) (hc : Chain p q r s sg zs) (hl : zs.length ≤ 1000000001) :
    Calls Try.prog 36 #[.agg #[.int .i64 p, .int .i64 q, .int .i64 r, .int .i64 s]] w fun e w' => ∃ v, e = .returned (.tuple #[.int .i64 sg, v]) ∧ OwnI w.heap.size w' v zs ∧ Below w.heap.size w w' := by
  obtain ⟨i0, hi, hz0, hz1, hz2⟩ := info_parts info_i64
  have hown0 := own_new (w.alloc (Obj.cells #[.int .i64 p, .int .i64 q, .int .i64 r, .int .i64 s] 25)) (w.heap.size + 1) 2 1 (by simp)
  simp only [World.size_alloc] at hown0
  have HC := Lib.hid hc
  have HM := Lib.hid h
  clear hc h
  go_enter Try.func36, Try.ntmps36
  go_wp2
  go_loopw [4] (fun v wr => ∃ (a b c d : Int) (n : Nat) (rest : List Int), Hid (isM a b c d = true) ∧ Hid (Chain a b c d sg rest) ∧ n + rest.length = zs.length ∧ Hid (zs.take n ++ rest = zs) ∧
      wr.ownsRow (w.heap.size + 1) 2 1 v n ((zs.take n).map (Value.int .i64)) ∧ 
      wr.cell? ⟨w.heap.size, 0, none⟩ = some (.int .i64 a) ∧ wr.cell? ⟨w.heap.size, 1, none⟩ = some (.int .i64 b) ∧ wr.cell? ⟨w.heap.size, 2, none⟩ = some (.int .i64 c) ∧ wr.cell? ⟨w.heap.size, 3, none⟩ = some (.int .i64 d) ∧
      (∀ i, wr.frozen? ⟨w.heap.size, i, none⟩ = false) ∧ Below w.heap.size w wr ∧ w.heap.size + 1 < wr.heap.size) (fun v wr => zs.length - lenOf v)
  case atStart => exact ⟨p, q, r, s, 0, zs, HM.out, HC.out, by omega, Lib.hid (by simp), by simpa using hown0, by go_cell, by go_cell, by go_cell, by go_cell, (by intro i; first | (simp; done) | (go_simp; done)), (by repeat' (first | (with_reducible exact Below.refl _ _) | (with_reducible assumption) | (with_reducible refine below_drewN ?_ _) | (with_reducible refine Below.drew ?_) | (with_reducible refine Below.alloc ?_ ?_ _) | (with_reducible refine Below.setCell ?_ ?_ _) | (with_reducible refine Below.trans ?_ (Below.mono (by with_reducible assumption) ?_)) | go_size | (dsimp only; omega))), by simp⟩
  case round =>
    obtain ⟨a, b, c, d, n, rest, HM2, HC2, hn, HT, hown, c0, c1, c2, c3, fw, hB, hsz⟩ := hrel
    clear hown0
    have hlen := lenOf_row hown
    have HLEN := Lib.hid hlen
    clear hlen
    obtain ⟨⟨ha0, ha1⟩, ⟨hb0, hb1⟩, ⟨hc0, hc1⟩, ⟨hd0, hd1⟩, hdet⟩ := isM_iff.mp HM2.out
    have HD := Lib.hid hdet
    clear hdet
    by_cases hz : c = 0
    · subst hz
      obtain ⟨rfl, rfl⟩ : sg = a ∧ rest = [a * b] := by
        cases HC2.out
        · exact ⟨rfl, rfl⟩
        · exact absurd rfl ‹_›
      have hab := ent_mul (x := sg) (y := b) (ent_iff.mpr ⟨ha0, ha1⟩) (ent_iff.mpr ⟨hb0, hb1⟩)
      obtain ⟨ab0, ab1⟩ := hab
      have hwr : IntKind.i64.wrap (sg * b) = sg * b := IntWalk.i64_in _ (by omega)
      go_wp2
      go_region_held3 (fun w' => w'.cell? ⟨w.heap.size, 0, none⟩ = some (.int .i64 sg) ∧ w'.cell? ⟨w.heap.size, 1, none⟩ = some (.int .i64 b)) (first | go_keep | (go_split_ands; refine ⟨?_, ?_⟩ <;> (rw [hgrow.cell_far _ (by simp; omega) (by intro e; have := hown.lt _ e.symm; dsimp only at this; omega)]; assumption)))
        ((refine step_append_lies _ (by rfl) _ _ _ (by rfl) (w.heap.size + 1) 2 i0 _ 1 8 under_i64s hi hz0 hz1 hz2 rfl (by omega) _ n ((zs.take n).map (Value.int .i64)) (by rfl) ((hown.alloc _).drew) ⟨wr.heap.size, 0, none⟩ 1 1 [.int .i64 (sg * b)] (by rfl) (by rfl) (World.news_of_block (cs := #[.int .i64 (sg * b)]) (t := 2) (fr := (0, 0)) (heap_alloc_new wr _)) (by simp [Value.oneCell']) (by omega) (by unfold maxLen; omega) (by omega) (by simp; omega) (wr.heap.size + 1) (by simp) ?_; intro gg cap w3 hown3 hgrow hat hlt))
      go_wp2
      have hB3 : Below w.heap.size w w3 := Below.grown (Below.drew (Below.alloc hB (by omega) _)) hgrow (by simp; omega) (fun k hk => by have := (hown.lt k hk).1; omega)
      have ho3 := own_end HT.out hn hown3
      exact bodyPost_ret (v := .tuple #[.int .i64 sg, .slice (some ⟨gg, 0, none⟩) (n + 1) cap]) (by simp only [results, Try.results36]; go_simp) rfl ⟨_, rfl, OwnI.base (OwnI.of_row ho3) (by omega), hB3⟩
    · have hz' : (c == 0) = false := by simpa using hz
      have hz'' : (c != 0) = true := by simpa using hz
      obtain ⟨l, rfl, hc3⟩ : ∃ l, rest = flo (2 * a + c) (2 * c) :: l ∧ Chain c d (flo (2 * a + c) (2 * c) * c - a) (flo (2 * a + c) (2 * c) * d - b) sg l := by
        cases HC2.out
        · exact absurd rfl hz
        · exact ⟨_, rfl, ‹_›⟩
      obtain ⟨f0, f1⟩ := flo_bd (2 * a + c) (2 * c) (by omega) (by omega)
      have rb := Plain.round_bd a c hz
      have rd := Plain.round_det a b c d (flo (2 * a + c) (2 * c)) HD.out
      have rdd := Plain.round_d c d _ _ hz rb.1 rb.2 rd hd0 hd1
      generalize hq : flo (2 * a + c) (2 * c) = qq at *
      have HQ := Lib.hid hq
      clear hq
      have HC3 := Lib.hid hc3
      have hM3 : isM c d (qq * c - a) (qq * d - b) = true := isM_iff.mpr ⟨⟨hc0, hc1⟩, ⟨hd0, hd1⟩, by omega, rdd, rd⟩
      have HM3 := Lib.hid hM3
      have qc : -4000000000 ≤ qq * c ∧ qq * c ≤ 4000000000 := by omega
      have qd : -4000000000 ≤ qq * d ∧ qq * d ≤ 4000000000 := by omega
      clear hc3 hM3 rd rb rdd
      obtain ⟨qc0, qc1⟩ := qc
      obtain ⟨qd0, qd1⟩ := qd
      go_wp2_with fail
      refine (l02Floor_c _ _ _ (by omega) (by omega) (by omega) (by omega) (by omega)).mono ?_
      rintro e w' ⟨rfl, rfl⟩
      rw [HQ.out]
      go_wp2_with (at_builtin; refine wpList_append_own _ rfl _ _ 27 rfl (w.heap.size + 1) 2 i0 (.int .i64 0) 1 8 under_i64s hi hz0 hz1 hz2 rfl (by decide) _ _ _ rfl (hown.alloc _) ⟨wr.heap.size, 0, none⟩ 1 1 [.int .i64 qq] rfl rfl (cell_one_new _ _ _) (fun x hx => by simp at hx; subst hx; rfl) (by unfold maxLen; omega) (by omega) (by simp; omega) ?_; intro v' w3 hown3 hgrow3 hnil3; obtain ⟨hB3, hs3, fc3, ff3⟩ := app_after hown hgrow3 hB (by omega) (by omega); have fc := fun o => fc3 w.heap.size o (by omega); have ff := fun o => ff3 w.heap.size o (by omega); clear fc3 ff3 hgrow3 hnil3)
      go_roundw
      case rel => exact ⟨c, d, qq * c - a, qq * d - b, n + 1, l, HM3.out, HC3.out, by simp at hn; omega, own_step1 HT.out, (by (repeat (with_reducible refine own_set ?_ (by dsimp only; omega))); exact own_step2 HT.out hown3), by go_simp, by go_simp, by go_simp, by go_simp, (by intro i; go_simp), (by repeat' (first | (with_reducible exact Below.refl _ _) | (with_reducible assumption) | (with_reducible refine below_drewN ?_ _) | (with_reducible refine Below.drew ?_) | (with_reducible refine Below.alloc ?_ ?_ _) | (with_reducible refine Below.setCell ?_ ?_ _) | (with_reducible refine Below.trans ?_ (Below.mono (by with_reducible assumption) ?_)) | go_size | (dsimp only; omega))), by go_size⟩
      case measure => (have e1 := lenOf_row hown3; have e2 := HLEN.out; simp at hn; omega)
end Go.Proofs.Ytgpnfjpnbchglaa
