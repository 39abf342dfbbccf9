/- MatrixOfChain. -/
import Derived.Test.YtgpnfjpnbchglaaAX
import Derived.Deep.DeepCutAuto
import Derived.StillTailTactics
namespace Go.Proofs.Ytgpnfjpnbchglaa
open Go.RowKit
set_option linter.unusedVariables false
set_option linter.unusedSimpArgs false
attribute [local go_sem] run_min_int4 run_max_int4
theorem prodL_append (l1 l2 : List M4) : ∀ m, prodL m (l1 ++ l2) = (prodL m l1).bind (fun x => prodL x l2) := by
  induction l1 with
  | nil => intro m; rfl
  | cons n l1 ih =>
    intro m
    rw [List.cons_append, prodL, prodL]
    split
    · exact ih _
    · rfl
def mS : M4 := ⟨0, -1, 1, 0⟩
def mT (z : Int) : M4 := ⟨1, z, 0, 1⟩
/-- the factors of a chain's first k numbers -/
def cC (sg : Int) (zs : List Int) : Nat → List M4
  | 0 => [⟨sg, 0, 0, sg⟩]
  | k + 1 => cC sg zs k ++ (if k = 0 then [mT (zs.getD k 0)] else [mS, mT (zs.getD k 0)])
theorem cC_len (sg : Int) (zs : List Int) (k : Nat) : (cC sg zs k).length = if k = 0 then 1 else 2 * k := by
  induction k with
  | zero => rfl
  | succ k ih =>
    rw [cC, List.length_append, ih]
    by_cases h : k = 0
    · subst h; rfl
    · rw [if_neg h, if_neg h, if_neg (by omega)]; simp; omega
def OkC (sg : Int) (zs : List Int) : Prop := (sg = 1 ∨ sg = -1) ∧ 1 ≤ zs.length ∧ zs.length ≤ 100 ∧ ∀ i, i < zs.length → ent (zs.getD i 0) = true
theorem mT_ent {z : Int} (h : ent z = true) : (mT z).ent = true := M4.ent_iff.mpr ⟨(by decide : ent 1 = true), h, (by decide : ent 0 = true), (by decide : ent 1 = true)⟩
theorem cC_ent {sg : Int} {zs : List Int} (h : OkC sg zs) : ∀ k, k ≤ zs.length → ∀ m ∈ cC sg zs k, m.ent = true := by
  intro k
  induction k with
  | zero =>
    intro _ m hm
    simp only [cC, List.mem_singleton] at hm
    subst hm
    rcases h.1 with e | e <;> subst e <;> decide
  | succ k ih =>
    intro hk m hm
    rw [cC, List.mem_append] at hm
    rcases hm with hm | hm
    · exact ih (by omega) m hm
    · have ht := mT_ent (h.2.2.2 k (by omega))
      split at hm
      · simp only [List.mem_singleton] at hm; rw [hm]; exact ht
      · simp only [List.mem_cons, List.not_mem_nil, or_false] at hm
        rcases hm with e | e
        · rw [e]; decide
        · rw [e]; exact ht
theorem cC_none (sg : Int) (zs : List Int) {k n : Nat} (hk : k ≤ n) (h : prodL M4.I (cC sg zs k) = none) : prodL M4.I (cC sg zs n) = none := by
  induction hk with
  | refl => exact h
  | step _ ih => rw [cC, prodL_append, ih]; rfl
theorem cC_start {sg : Int} (h : sg = 1 ∨ sg = -1) (zs : List Int) : prodL M4.I (cC sg zs 0) = some ⟨sg, 0, 0, sg⟩ := by
  rcases h with e | e <;> subst e <;> rfl
open Classical in
/-- what MatrixOfChain answers -/
noncomputable def chainV (sg : Int) (zs : List Int) : Value := if OkC sg zs then prodV (prodL M4.I (cC sg zs zs.length)) else .tuple #[.agg #[.int .i64 0, .int .i64 0, .int .i64 0, .int .i64 0], .int .i64 2]
theorem chainV_yes {sg : Int} {zs : List Int} (h : OkC sg zs) : chainV sg zs = prodV (prodL M4.I (cC sg zs zs.length)) := if_pos h
theorem chainV_no {sg : Int} {zs : List Int} (h : ¬ OkC sg zs) : chainV sg zs = .tuple #[.agg #[.int .i64 0, .int .i64 0, .int .i64 0, .int .i64 0], .int .i64 2] := if_neg h
theorem chainV_form (sg : Int) (zs : List Int) : ∃ a b c d e : Int, chainV sg zs = .tuple #[.agg #[.int .i64 a, .int .i64 b, .int .i64 c, .int .i64 d], .int .i64 e] := by
  unfold chainV
  split
  · exact prodV_form _
  · exact ⟨_, _, _, _, _, rfl⟩
theorem size_wide (n : Int) (w : World) (h0 : -9223372036854775807 ≤ n) (h1 : n ≤ 9223372036854775807) :
    Calls Try.prog 39 #[.int .i64 n] w fun e w' => e = .returned (.int .i64 (max n (-n))) ∧ w = w' := by
  go_enter Try.func39, Try.ntmps39
  go_wp2
  all_goals (go_ret; exact ⟨ret_int (by omega), rfl⟩)
theorem size_least (w : World) :
    Calls Try.prog 39 #[.int .i64 (-9223372036854775808)] w fun e w' => e = .returned (.int .i64 (-9223372036854775808)) ∧ w = w' := by
  go_enter Try.func39, Try.ntmps39
  go_wp2
  all_goals (go_ret; exact ⟨ret_int (by rw [show wrap64 9223372036854775808 = -9223372036854775808 from by first | kernel_rfl | (unfold wrap64; omega) | (simp [wrap64]; done)]; omega), rfl⟩)
theorem size_any (n : Int) (w : World) (hw : (Lit.int .i64 n).wf = true) :
    ∃ m : Int, (m = 1 ↔ (n = 1 ∨ n = -1)) ∧ Calls Try.prog 39 #[.int .i64 n] w fun e w' => e = .returned (.int .i64 m) ∧ w = w' := by
  have hb : -9223372036854775808 ≤ n ∧ n ≤ 9223372036854775807 := by
    simp only [Lit.wf, Bool.and_eq_true, decide_eq_true_eq] at hw
    have e1 : IntKind.i64.min = -9223372036854775808 := by decide
    have e2 : IntKind.i64.max = 9223372036854775807 := by decide
    rw [e1, e2] at hw; exact hw
  by_cases h : n = -9223372036854775808
  · subst h; exact ⟨_, by omega, size_least w⟩
  · exact ⟨_, by omega, size_wide n w (by omega) hb.2⟩
set_option maxRecDepth 100000 in
set_option maxHeartbeats 8000000 in
theorem MatrixOfChain_row (sg : Int) (wsg : (Lit.int .i64 sg).wf = true) (b o c : Nat) (zs : List Int) (w : World) (hb : b < w.heap.size) (hr : RowI w b o zs) (hm : zs.length ≤ 1000000000) (hn0 : zs ≠ []) :
    Calls Try.prog 11 #[.int .i64 sg, .slice (some ⟨b, o, none⟩) zs.length c] w fun e w' => e = .returned (chainV sg zs) ∧ Below w.heap.size w w' := by
  obtain ⟨i0, hi, hz0, hz1, hz2⟩ := info_parts info_M
  obtain ⟨ms, hms, hsize⟩ := size_any sg (w.alloc (Obj.cells #[.int .i64 0, .int .i64 0, .int .i64 0, .int .i64 0] 25)) wsg
  have hpos : 0 < zs.length := List.length_pos_iff.mpr hn0
  have HR : Hid (∀ k, k < zs.length → w.cell? ⟨b, o + k, none⟩ = some (.int .i64 (zs.getD k 0))) := Lib.hid hr
  have HSZ := Lib.hid hsize
  generalize hn : zs.length = n at *
  have HL := Lib.hid hn
  clear hn hr hn0 hsize wsg
  have hn1 : ¬ ((n : Int) < 1) := by omega
  by_cases hsg : sg = 1 ∨ sg = -1
  case neg =>
    have hm1 : ¬ ms = 1 := fun e => hsg (hms.mp e)
    have hm2 : (ms == 1) = false := by simpa using hm1
    have hno : chainV sg zs = .tuple #[.agg #[.int .i64 0, .int .i64 0, .int .i64 0, .int .i64 0], .int .i64 2] := chainV_no (fun h => hsg h.1)
    have HNO := Lib.hid hno
    clear hno hms hsg
    go_enter Try.func11, Try.ntmps11
    go_wp2_with fail
    refine HSZ.out.mono ?_
    rintro e w' ⟨rfl, rfl⟩
    go_wp2
    exact bodyPost_ret (v := .tuple #[.agg #[.int .i64 0, .int .i64 0, .int .i64 0, .int .i64 0], .int .i64 2]) (by simp only [results, Try.results11]; go_simp) rfl ⟨congrArg Ending.returned HNO.out.symm, (by repeat' (first | (with_reducible exact Below.refl _ _) | (with_reducible assumption) | (with_reducible refine below_drewN ?_ _) | (with_reducible refine Below.drew ?_) | (with_reducible refine Below.alloc ?_ ?_ _) | (with_reducible refine Below.setCell ?_ ?_ _) | (with_reducible refine Below.trans ?_ (Below.mono (by with_reducible assumption) ?_)) | go_size | (dsimp only; omega)))⟩
  case pos =>
  have hm1 : ms = 1 := hms.mpr hsg
  have hm2 : (ms == 1) = true := by simpa using hm1
  clear hms
  subst hm1
  by_cases hl : n ≤ 100
  case neg =>
    have hn100 : (100 < (n : Int)) := by omega
    have hno : chainV sg zs = .tuple #[.agg #[.int .i64 0, .int .i64 0, .int .i64 0, .int .i64 0], .int .i64 2] := chainV_no (fun h => by have := h.2.2.1; rw [HL.out] at this; omega)
    have HNO := Lib.hid hno
    clear hno hsg
    go_enter Try.func11, Try.ntmps11
    go_wp2_with fail
    refine HSZ.out.mono ?_
    rintro e w' ⟨rfl, rfl⟩
    go_wp2
    exact bodyPost_ret (v := .tuple #[.agg #[.int .i64 0, .int .i64 0, .int .i64 0, .int .i64 0], .int .i64 2]) (by simp only [results, Try.results11]; go_simp) rfl ⟨congrArg Ending.returned HNO.out.symm, (by repeat' (first | (with_reducible exact Below.refl _ _) | (with_reducible assumption) | (with_reducible refine below_drewN ?_ _) | (with_reducible refine Below.drew ?_) | (with_reducible refine Below.alloc ?_ ?_ _) | (with_reducible refine Below.setCell ?_ ?_ _) | (with_reducible refine Below.trans ?_ (Below.mono (by with_reducible assumption) ?_)) | go_size | (dsimp only; omega)))⟩
  case pos =>
  have hn100 : ¬ (100 < (n : Int)) := by omega
  have hae : ∀ W : World, Below w.heap.size w W → Calls Try.prog 40 #[.slice (some ⟨b, o, none⟩) n c] W fun e w' => e = .returned (.bool (ents zs)) ∧ W = w' := by
    intro W hW
    refine areEntries_c b o n c zs W HL.out (by omega) ?_
    intro k hk
    rw [hW.cell (p := ⟨b, o + k, none⟩) hb]; exact HR.out k hk
  have HAE := Lib.hid hae
  clear hae
  cases he : ents zs
  case false =>
    have hno : chainV sg zs = .tuple #[.agg #[.int .i64 0, .int .i64 0, .int .i64 0, .int .i64 0], .int .i64 2] := chainV_no (fun h => by
      have : ents zs = true := by
        unfold ents; rw [List.all_eq_true]; intro x hx
        obtain ⟨i, hi, rfl⟩ := List.mem_iff_getElem.mp hx
        have := h.2.2.2 i hi
        simpa [List.getD, hi] using this
      rw [he] at this; cases this)
    have HNO := Lib.hid hno
    have HE := Lib.hid he
    clear hno he hsg
    go_enter Try.func11, Try.ntmps11
    go_wp2_with fail
    refine HSZ.out.mono ?_
    rintro e w' ⟨rfl, rfl⟩
    go_wp2_with fail
    refine (HAE.out _ (by repeat' (first | (with_reducible exact Below.refl _ _) | (with_reducible assumption) | (with_reducible refine below_drewN ?_ _) | (with_reducible refine Below.drew ?_) | (with_reducible refine Below.alloc ?_ ?_ _) | (with_reducible refine Below.setCell ?_ ?_ _) | (with_reducible refine Below.trans ?_ (Below.mono (by with_reducible assumption) ?_)) | go_size | (dsimp only; omega)))).mono ?_
    rintro e w' ⟨rfl, rfl⟩
    rw [HE.out]
    go_wp2
    exact bodyPost_ret (v := .tuple #[.agg #[.int .i64 0, .int .i64 0, .int .i64 0, .int .i64 0], .int .i64 2]) (by simp only [results, Try.results11]; go_simp) rfl ⟨congrArg Ending.returned HNO.out.symm, (by repeat' (first | (with_reducible exact Below.refl _ _) | (with_reducible assumption) | (with_reducible refine below_drewN ?_ _) | (with_reducible refine Below.drew ?_) | (with_reducible refine Below.alloc ?_ ?_ _) | (with_reducible refine Below.setCell ?_ ?_ _) | (with_reducible refine Below.trans ?_ (Below.mono (by with_reducible assumption) ?_)) | go_size | (dsimp only; omega)))⟩
  case true =>
  have hent : ∀ i, i < n → ent (zs.getD i 0) = true := by
    intro i hi
    rw [← HL.out] at hi
    have := List.all_eq_true.mp (show zs.all ent = true from he) _ (List.getElem_mem hi)
    simpa [List.getD, hi] using this
  have hOK : OkC sg zs := ⟨hsg, by rw [HL.out]; omega, by rw [HL.out]; exact hl, by rw [HL.out]; exact hent⟩
  have hyes := chainV_yes hOK
  rw [HL.out] at hyes
  obtain ⟨x0, x1, x2, x3, x4, hx⟩ := prodV_form (prodL M4.I (cC sg zs n))
  have HYES := Lib.hid (hyes.trans hx)
  have HX := Lib.hid hx
  have HEN : Hid (∀ m ∈ cC sg zs n, m.ent = true) := Lib.hid (cC_ent hOK n (by rw [HL.out]; exact Nat.le_refl _))
  have HE := Lib.hid he
  have hown0 : ((w.alloc (Obj.cells #[.int .i64 0, .int .i64 0, .int .i64 0, .int .i64 0] 25)).alloc (Obj.cells #[.int .i64 sg, .int .i64 0, .int .i64 0, .int .i64 sg] 25)).ownsRow (w.heap.size + 1) 25 4 (.slice (some ⟨w.heap.size + 1, 0, none⟩) 1 1) 1 (cells4 (cC sg zs 0)) := by
    refine ⟨rfl, .inr ⟨w.heap.size + 1, 1, #[.int .i64 sg, .int .i64 0, .int .i64 0, .int .i64 sg], rfl, Nat.le_refl _, ?_, Nat.le_refl _, by unfold maxLen; omega, rfl, rfl⟩⟩
    have := heap_alloc_new (w.alloc (Obj.cells #[.int .i64 0, .int .i64 0, .int .i64 0, .int .i64 0] 25)) (Obj.cells #[.int .i64 sg, .int .i64 0, .int .i64 0, .int .i64 sg] 25)
    simpa using this
  clear hyes hx he hOK hsg hent
  go_enter Try.func11, Try.ntmps11
  go_wp2_with fail
  refine HSZ.out.mono ?_
  rintro e w' ⟨rfl, rfl⟩
  go_wp2_with fail
  refine (HAE.out _ (by repeat' (first | (with_reducible exact Below.refl _ _) | (with_reducible assumption) | (with_reducible refine below_drewN ?_ _) | (with_reducible refine Below.drew ?_) | (with_reducible refine Below.alloc ?_ ?_ _) | (with_reducible refine Below.setCell ?_ ?_ _) | (with_reducible refine Below.trans ?_ (Below.mono (by with_reducible assumption) ?_)) | go_size | (dsimp only; omega)))).mono ?_
  rintro e w' ⟨rfl, rfl⟩
  rw [HE.out]
  go_wp2
  go_loopw [6, 34] (fun v i wr => ∃ (k m : Nat), k ≤ n ∧ i = .int .i64 k ∧ m = (if k = 0 then 1 else 2 * k) ∧ v ≠ .slice none 0 0 ∧ wr.ownsRow (w.heap.size + 1) 25 4 v m (cells4 (cC sg zs k)) ∧ wr.cell? ⟨w.heap.size, 0, none⟩ = some (.int .i64 0) ∧ wr.cell? ⟨w.heap.size, 1, none⟩ = some (.int .i64 0) ∧ wr.cell? ⟨w.heap.size, 2, none⟩ = some (.int .i64 0) ∧ wr.cell? ⟨w.heap.size, 3, none⟩ = some (.int .i64 0) ∧ (∀ i, wr.frozen? ⟨w.heap.size, i, none⟩ = false) ∧ Below w.heap.size w wr ∧ w.heap.size + 1 < wr.heap.size) (fun v i wr => n - (intOf i).toNat)
  case atStart => exact ⟨0, 1, Nat.zero_le _, rfl, rfl, by simp, hown0, by go_cell, by go_cell, by go_cell, by go_cell, (by intro i; first | (simp; done) | (go_simp; done)), (by repeat' (first | (with_reducible exact Below.refl _ _) | (with_reducible assumption) | (with_reducible refine below_drewN ?_ _) | (with_reducible refine Below.drew ?_) | (with_reducible refine Below.alloc ?_ ?_ _) | (with_reducible refine Below.setCell ?_ ?_ _) | (with_reducible refine Below.trans ?_ (Below.mono (by with_reducible assumption) ?_)) | go_size | (dsimp only; omega))), by simp⟩
  case round =>
    obtain ⟨k, m, hk, rfl, hmk, hnn, hown, d0, d1, d2, d3, fw, hB, hsz⟩ := hrel
    clear hown0
    have hw : w.heap.size < wr.heap.size := by omega
    by_cases hlt : k < n
    · have hltI : (k : Int) < (n : Int) := by omega
      have q1 : wr.cell? ⟨b, o + k, none⟩ = some (.int .i64 (zs.getD k 0)) := by
        rw [hB.cell (p := ⟨b, o + k, none⟩) hb]; exact HR.out k hlt
      by_cases hk0 : k = 0
      · subst hk0
        obtain rfl : m = 1 := by simpa using hmk
        have hcc : cC sg zs 1 = cC sg zs 0 ++ [mT (zs.getD 0 0)] := rfl
        have HCC := Lib.hid hcc
        have hM : (mT (zs.getD 0 0)).cs = [.int .i64 1, .int .i64 (zs.getD 0 0), .int .i64 0, .int .i64 1] := rfl
        have HM := Lib.hid hM
        rw [Nat.add_zero] at q1
        clear hcc hM hmk
        generalize zs.getD 0 0 = z at *
        go_wp2_with (at_builtin; refine wpList_append_own _ rfl _ _ 60 rfl (w.heap.size + 1) 25 i0 (.agg #[.int .i64 0, .int .i64 0, .int .i64 0, .int .i64 0]) 4 32 under_Ms hi hz0 hz1 hz2 rfl (by decide) _ _ _ rfl (hown.alloc _) ⟨wr.heap.size, 0, none⟩ 1 1 [.int .i64 1, .int .i64 z, .int .i64 0, .int .i64 1] rfl rfl (World.news_of_block (cs := #[.int .i64 1, .int .i64 z, .int .i64 0, .int .i64 1]) (t := 25) (fr := (0, 0)) (heap_alloc_new wr _)) (by simp [Value.oneCell']) (by unfold maxLen; omega) (by omega) (by simp; omega) ?_; intro v' w3 hown3 hgrow3 hnil3; obtain ⟨hB3, hs3, fc3_, ff3_⟩ := app_after hown hgrow3 hB (by omega) (by omega); have fc3 := fun o => fc3_ w.heap.size o (by omega); have ff3 := fun o => ff3_ w.heap.size o (by omega); have HN3 := Lib.hid hnil3; clear fc3_ ff3_ hgrow3 hnil3)
        go_roundw
        case rel => exact ⟨1, 2, by omega, by go_num, rfl, (by intro e; exact absurd ((HN3.out.mp e).2) (by decide)), (by rw [HCC.out, cells4_snoc, HM.out]; exact hown3), by rw [fc3]; exact d0, by rw [fc3]; exact d1, by rw [fc3]; exact d2, by rw [fc3]; exact d3, (by intro i; rw [ff3]; exact fw i), hB3, by omega⟩
        case measure => simp [intOf]; omega
      · have hkI : (0 : Int) < (k : Int) := by omega
        rw [if_neg hk0] at hmk
        have hcc : cC sg zs (k + 1) = (cC sg zs k ++ [mS]) ++ [mT (zs.getD k 0)] := by rw [cC, if_neg hk0]; simp
        have HCC := Lib.hid hcc
        have hM : (mT (zs.getD k 0)).cs = [.int .i64 1, .int .i64 (zs.getD k 0), .int .i64 0, .int .i64 1] := rfl
        have HM := Lib.hid hM
        clear hcc hM
        generalize zs.getD k 0 = z at *
        go_wp2_with fail
        refine (letter_83 _).mono ?_
        rintro e w2 ⟨rfl, b2⟩
        have hown2 := own_below2 hown b2
        have hB2 : Below w.heap.size w w2 := (by repeat' (first | (with_reducible exact Below.refl _ _) | (with_reducible assumption) | (with_reducible refine below_drewN ?_ _) | (with_reducible refine Below.drew ?_) | (with_reducible refine Below.alloc ?_ ?_ _) | (with_reducible refine Below.setCell ?_ ?_ _) | (with_reducible refine Below.trans ?_ (Below.mono (by with_reducible assumption) ?_)) | go_size | (dsimp only; omega)))
        have z2 := b2.size
        have zzb2 := b2.size; (try simp at zzb2); have zb2_0 : w.heap.size < w2.heap.size := (by omega); have kcb2_0 : ∀ o, w2.cell? ⟨w.heap.size, o, none⟩ = _ := fun o => b2.cell (p := ⟨w.heap.size, o, none⟩) (by go_size); have kfb2_0 : ∀ o, w2.frozen? ⟨w.heap.size, o, none⟩ = _ := fun o => b2.frozen (p := ⟨w.heap.size, o, none⟩) (by go_size); clear zzb2
        go_upto_region 9 with (at_builtin; refine wpList_append_own _ rfl _ _ 60 rfl (w.heap.size + 1) 25 i0 (.agg #[.int .i64 0, .int .i64 0, .int .i64 0, .int .i64 0]) 4 32 under_Ms hi hz0 hz1 hz2 rfl (by decide) _ _ _ rfl (hown2.alloc _) ⟨w2.heap.size, 0, none⟩ 1 1 [.int .i64 0, .int .i64 (-1), .int .i64 1, .int .i64 0] rfl rfl (World.news_of_block (cs := #[.int .i64 0, .int .i64 (-1), .int .i64 1, .int .i64 0]) (t := 25) (fr := (0, 0)) (heap_alloc_new w2 _)) (by simp [Value.oneCell']) (by unfold maxLen; omega) (by omega) (by simp; omega) ?_; intro v' w3 hown3 hgrow3 hnil3; obtain ⟨hB3, hs3, fc3_, ff3_⟩ := app_after hown2 hgrow3 hB2 (by omega) (by omega); have fc3 := fun o => fc3_ w.heap.size o (by omega); have ff3 := fun o => ff3_ w.heap.size o (by omega); have HN3 := Lib.hid hnil3; clear fc3_ ff3_ hgrow3 hnil3)
        go_wp2_with (at_builtin; refine wpList_append_own _ rfl _ _ 60 rfl (w.heap.size + 1) 25 i0 (.agg #[.int .i64 0, .int .i64 0, .int .i64 0, .int .i64 0]) 4 32 under_Ms hi hz0 hz1 hz2 rfl (by decide) _ _ _ rfl (hown3.alloc _) ⟨w3.heap.size, 0, none⟩ 1 1 [.int .i64 1, .int .i64 z, .int .i64 0, .int .i64 1] rfl rfl (World.news_of_block (cs := #[.int .i64 1, .int .i64 z, .int .i64 0, .int .i64 1]) (t := 25) (fr := (0, 0)) (heap_alloc_new w3 _)) (by simp [Value.oneCell']) (by unfold maxLen; omega) (by omega) (by simp; omega) ?_; intro v' w4 hown4 hgrow4 hnil4; obtain ⟨hB4, hs4, fc4_, ff4_⟩ := app_after hown3 hgrow4 hB3 (by omega) (by omega); have fc4 := fun o => fc4_ w.heap.size o (by omega); have ff4 := fun o => ff4_ w.heap.size o (by omega); have HN4 := Lib.hid hnil4; clear fc4_ ff4_ hgrow4 hnil4)
        go_roundw
        case rel => exact ⟨k + 1, m + 1 + 1, by omega, by go_num, by rw [if_neg (by omega)]; omega, (by intro e; exact absurd ((HN4.out.mp e).2) (by decide)), (by rw [HCC.out, cells4_snoc, cells4_snoc, HM.out]; exact hown4), by rw [fc4, fc3, kcb2_0]; exact d0, by rw [fc4, fc3, kcb2_0]; exact d1, by rw [fc4, fc3, kcb2_0]; exact d2, by rw [fc4, fc3, kcb2_0]; exact d3, (by intro i; rw [ff4, ff3, kfb2_0]; exact fw i), hB4, by omega⟩
        case measure => simp [intOf]; omega
    · have hkn : k = n := by omega
      obtain ⟨g, c', rfl, hgn, hg0, hg1, hrow⟩ := rowM_own hown hnn
      have HRW := Lib.hid hrow
      have HLN := Lib.hid hgn
      have hm' : m ≤ 1000000 := by rw [hmk]; split <;> omega
      clear hrow hgn hown hnn hlt hmk
      subst hkn
      go_wp2_with fail
      refine (product_c g 0 _ c' _ _ HLN.out (by omega) hg1 HRW.out HEN.out).mono ?_
      rintro e w2 ⟨rfl, b2⟩
      rw [HX.out]
      have zzb2 := b2.size; (try simp at zzb2); have zb2_0 : w.heap.size < w2.heap.size := (by omega); have kcb2_0 : ∀ o, w2.cell? ⟨w.heap.size, o, none⟩ = _ := fun o => b2.cell (p := ⟨w.heap.size, o, none⟩) (by go_size); have kfb2_0 : ∀ o, w2.frozen? ⟨w.heap.size, o, none⟩ = _ := fun o => b2.frozen (p := ⟨w.heap.size, o, none⟩) (by go_size); clear zzb2
      have hB2 : Below w.heap.size w w2 := (by repeat' (first | (with_reducible exact Below.refl _ _) | (with_reducible assumption) | (with_reducible refine below_drewN ?_ _) | (with_reducible refine Below.drew ?_) | (with_reducible refine Below.alloc ?_ ?_ _) | (with_reducible refine Below.setCell ?_ ?_ _) | (with_reducible refine Below.trans ?_ (Below.mono (by with_reducible assumption) ?_)) | go_size | (dsimp only; omega)))
      go_wp2
      exact bodyPost_ret (v := .tuple #[.agg #[.int .i64 x0, .int .i64 x1, .int .i64 x2, .int .i64 x3], .int .i64 x4]) (by simp only [results, Try.results11]; go_simp) rfl ⟨congrArg Ending.returned HYES.out.symm, (by repeat' (first | (with_reducible exact Below.refl _ _) | (with_reducible assumption) | (with_reducible refine below_drewN ?_ _) | (with_reducible refine Below.drew ?_) | (with_reducible refine Below.alloc ?_ ?_ _) | (with_reducible refine Below.setCell ?_ ?_ _) | (with_reducible refine Below.trans ?_ (Below.mono (by with_reducible assumption) ?_)) | go_size | (dsimp only; omega)))⟩
end Go.Proofs.Ytgpnfjpnbchglaa
