/- MatrixOfWord. -/
import Derived.Test.YtgpnfjpnbchglaaAO
namespace Go.Proofs.Ytgpnfjpnbchglaa
open Go.RowKit
set_option linter.unusedVariables false
set_option linter.unusedSimpArgs false
theorem l02Unit_c' (w : World) :
    Calls Try.prog 49 #[] w fun e w' => e = .returned (.agg #[.int .i64 1, .int .i64 0, .int .i64 0, .int .i64 1]) ∧ Below w.heap.size w w' := by
  go_enter Try.func49, Try.ntmps49
  go_wp2
  go_returns
  exact ⟨rfl, (by repeat' (first | (with_reducible exact Below.refl _ _) | (with_reducible assumption) | (with_reducible refine below_drewN ?_ _) | (with_reducible refine Below.drew ?_) | (with_reducible refine Below.alloc ?_ ?_ _) | (with_reducible refine Below.setCell ?_ ?_ _) | (with_reducible refine Below.trans ?_ (Below.mono (by with_reducible assumption) ?_)) | go_size | (dsimp only; omega)))⟩
theorem l01Times_yes (m n : M4) (w : World) (hm : m.ent = true) (hn : n.ent = true) (h : (m.mul n).ent = true) :
    Calls Try.prog 44 #[m.v, n.v] w fun e w' => e = .returned (.tuple #[(m.mul n).v, .bool true]) ∧ Below w.heap.size w w' := by
  obtain ⟨m0, m1, m2, m3⟩ := M4.ent_iff.mp hm
  obtain ⟨n0, n1, n2, n3⟩ := M4.ent_iff.mp hn
  refine (l01Times_c m.a m.b m.c m.d n.a n.b n.c n.d w m0 m1 m2 m3 n0 n1 n2 n3).mono ?_
  rintro e w' ⟨rfl, b⟩
  exact ⟨congrArg Ending.returned (show (if (m.mul n).ent = true then (.tuple #[(m.mul n).v, .bool true] : Value) else .tuple #[.agg #[.int .i64 0, .int .i64 0, .int .i64 0, .int .i64 0], .bool false]) = _ from if_pos h), b⟩
theorem l01Times_no (m n : M4) (w : World) (hm : m.ent = true) (hn : n.ent = true) (h : (m.mul n).ent = false) :
    Calls Try.prog 44 #[m.v, n.v] w fun e w' => e = .returned (.tuple #[.agg #[.int .i64 0, .int .i64 0, .int .i64 0, .int .i64 0], .bool false]) ∧ Below w.heap.size w w' := by
  obtain ⟨m0, m1, m2, m3⟩ := M4.ent_iff.mp hm
  obtain ⟨n0, n1, n2, n3⟩ := M4.ent_iff.mp hn
  refine (l01Times_c m.a m.b m.c m.d n.a n.b n.c n.d w m0 m1 m2 m3 n0 n1 n2 n3).mono ?_
  rintro e w' ⟨rfl, b⟩
  exact ⟨congrArg Ending.returned (show (if (m.mul n).ent = true then (.tuple #[(m.mul n).v, .bool true] : Value) else .tuple #[.agg #[.int .i64 0, .int .i64 0, .int .i64 0, .int .i64 0], .bool false]) = _ from if_neg (by rw [h]; simp)), b⟩
/-- where a product of the reference stands -/
def At (f : Bool) (m : M4) (ms : List M4) (k : Nat) : Prop := if f = true then m.ent = true ∧ prodL m (ms.drop k) = prodL M4.I ms else prodL M4.I ms = none
/-- a letter of a word -/
def isT (b : UInt8) : Bool := decide (b = 83 ∨ b = 84 ∨ b = 116 ∨ b = 76 ∨ b = 108)
theorem isT_iff {b : UInt8} : isT b = true ↔ (b = 83 ∨ b = 84 ∨ b = 116 ∨ b = 76 ∨ b = 108) := by simp [isT]
theorem index_T (b : UInt8) : decide (0 ≤ Lib.indexByte [83, 84, 116, 76, 108] b) = isT b := by
  have h : ∀ x y : UInt8, (x == y) = decide (y = x) := by
    intro x y
    by_cases e : x = y
    · subst e; simp
    · simp [e, Ne.symm e]
  simp only [Lib.indexByte, h, isT]
  by_cases h1 : b = 83 <;> by_cases h2 : b = 84 <;> by_cases h3 : b = 116 <;> by_cases h4 : b = 76 <;> by_cases h5 : b = 108 <;> simp [h1, h2, h3, h4, h5]
theorem okW_T (l : List UInt8) : okW [83, 84, 116, 76, 108] l = l.all isT := by
  unfold okW
  congr 1
  funext c
  exact index_T c
theorem isT_isL {b : UInt8} (h : isT b = true) : isL b := by
  rcases isT_iff.mp h with h | h | h | h | h <;> simp [isL, h]
theorem all_step {l : List UInt8} {p : UInt8 → Bool} {k : Nat} (hk : k < l.length) : (l.drop k).all p = (p l[k] && (l.drop (k + 1)).all p) := by
  rw [List.drop_eq_getElem_cons hk]; rfl
/-- what MatrixOfWord answers -/
def wordV (s : ByteArray) : Value := if (s.data.toList.all isT && decide (s.size ≤ 200)) = true then prodV (prodL M4.I (s.data.toList.map letM)) else .tuple #[.agg #[.int .i64 0, .int .i64 0, .int .i64 0, .int .i64 0], .int .i64 2]
theorem wordV_form (s : ByteArray) : ∃ a b c d e : Int, wordV s = .tuple #[.agg #[.int .i64 a, .int .i64 b, .int .i64 c, .int .i64 d], .int .i64 e] := by
  unfold wordV
  split
  · exact prodV_form _
  · exact ⟨_, _, _, _, _, rfl⟩
theorem MatrixOfWord_c (s : ByteArray) (w : World) (hs : s.size ≤ 1000000000000) :
    Calls Try.prog 14 #[.string s] w fun e w' => e = .returned (wordV s) ∧ Below w.heap.size w w' := by
  have hO := okW_T s.data.toList
  cases h : (s.data.toList.all isT && decide (s.size ≤ 200))
  · have hv : wordV s = .tuple #[.agg #[.int .i64 0, .int .i64 0, .int .i64 0, .int .i64 0], .int .i64 2] := by unfold wordV; rw [if_neg (by rw [h]; simp)]
    rw [hv]
    have H := Lib.hid h
    have HO := Lib.hid hO
    clear hv h hO
    go_enter Try.func14, Try.ntmps14
    go_wp2_with fail
    refine (isWord_c s _ _ hs).mono ?_
    rintro e w' ⟨rfl, rfl⟩
    rw [show (okW _ s.data.toList && decide (s.size ≤ 200)) = false from by rw [show okW _ s.data.toList = s.data.toList.all isT from HO.out]; exact H.out]
    go_wp2
    exact bodyPost_ret (v := .tuple #[.agg #[.int .i64 0, .int .i64 0, .int .i64 0, .int .i64 0], .int .i64 2]) (by simp only [results, Try.results14]; go_simp) rfl ⟨rfl, (by repeat' (first | (with_reducible exact Below.refl _ _) | (with_reducible assumption) | (with_reducible refine below_drewN ?_ _) | (with_reducible refine Below.drew ?_) | (with_reducible refine Below.alloc ?_ ?_ _) | (with_reducible refine Below.setCell ?_ ?_ _) | (with_reducible refine Below.trans ?_ (Below.mono (by with_reducible assumption) ?_)) | go_size | (dsimp only; omega)))⟩
  · have hv : wordV s = prodV (prodL M4.I (s.data.toList.map letM)) := by unfold wordV; rw [if_pos h]
    obtain ⟨x0, x1, x2, x3, x4, hx⟩ := wordV_form s
    rw [hx]
    have HV := Lib.hid (hv.symm.trans hx)
    have h' := h
    rw [Bool.and_eq_true] at h'
    have hsz : s.size ≤ 200 := by simpa using h'.2
    have hl : ∀ b ∈ s.data.toList, isL b := fun b hb => isT_isL (List.all_eq_true.mp h'.1 b hb)
    have H := Lib.hid h
    have HO := Lib.hid hO
    have HL := Lib.hid hl
    clear hv h hO hx h' hl
    go_enter Try.func14, Try.ntmps14
    go_wp2_with fail
    refine (isWord_c s _ _ hs).mono ?_
    rintro e w' ⟨rfl, rfl⟩
    rw [show (okW _ s.data.toList && decide (s.size ≤ 200)) = true from by rw [show okW _ s.data.toList = s.data.toList.all isT from HO.out]; exact H.out]
    go_wp2_with fail
    refine (ofWord_c s _ hsz HL.out).mono ?_
    rintro e w2 ⟨rfl, b2⟩
    rw [HV.out]
    have zzb2 := b2.size; (try simp at zzb2); have zb2_0 : w.heap.size < w2.heap.size := (by omega); have kcb2_0 : ∀ o, w2.cell? ⟨w.heap.size, o, none⟩ = _ := fun o => b2.cell (p := ⟨w.heap.size, o, none⟩) (by go_size); have kfb2_0 : ∀ o, w2.frozen? ⟨w.heap.size, o, none⟩ = _ := fun o => b2.frozen (p := ⟨w.heap.size, o, none⟩) (by go_size); clear zzb2
    go_wp2
    exact bodyPost_ret (v := .tuple #[.agg #[.int .i64 x0, .int .i64 x1, .int .i64 x2, .int .i64 x3], .int .i64 x4]) (by simp only [results, Try.results14]; go_simp) rfl ⟨rfl, (by repeat' (first | (with_reducible exact Below.refl _ _) | (with_reducible assumption) | (with_reducible refine below_drewN ?_ _) | (with_reducible refine Below.drew ?_) | (with_reducible refine Below.alloc ?_ ?_ _) | (with_reducible refine Below.setCell ?_ ?_ _) | (with_reducible refine Below.trans ?_ (Below.mono (by with_reducible assumption) ?_)) | go_size | (dsimp only; omega)))⟩
set_option maxRecDepth 100000 in
set_option maxHeartbeats 8000000 in
theorem sMatrixOfWord_c (s : ByteArray) (w : World) (hs : s.size ≤ 1000000000000) :
    Calls Try.prog 15 #[.string s] w fun e w' => e = .returned (wordV s) ∧ Below w.heap.size w w' := by
  by_cases hsz : s.size ≤ 200
  · have hsd : decide ((s.size : Int) > 200) = false := by simp; omega
    have hsn : ¬ (200 < (s.size : Int)) := by omega
    obtain ⟨x0, x1, x2, x3, x4, hx⟩ := wordV_form s
    have HX := Lib.hid hx
    clear hx
    go_enter Try.func15, Try.ntmps15
    go_wp2
    go_loopw [4] (fun i wr => ∃ k : Nat, k ≤ s.size ∧ i = .int .i64 k ∧ Hid ((s.data.toList.drop k).all isT = s.data.toList.all isT) ∧ wr.cell? ⟨w.heap.size, 0, none⟩ = some (.int .i64 0) ∧ wr.cell? ⟨w.heap.size, 1, none⟩ = some (.int .i64 0) ∧ wr.cell? ⟨w.heap.size, 2, none⟩ = some (.int .i64 0) ∧ wr.cell? ⟨w.heap.size, 3, none⟩ = some (.int .i64 0) ∧ (∀ i, wr.frozen? ⟨w.heap.size, i, none⟩ = false) ∧ Below w.heap.size w wr ∧ w.heap.size < wr.heap.size) (fun i wr => s.size - (intOf i).toNat)
    case atStart => exact ⟨0, Nat.zero_le _, rfl, Lib.hid rfl, by go_cell, by go_cell, by go_cell, by go_cell, (by intro i; first | (simp; done) | (go_simp; done)), (by repeat' (first | (with_reducible exact Below.refl _ _) | (with_reducible assumption) | (with_reducible refine below_drewN ?_ _) | (with_reducible refine Below.drew ?_) | (with_reducible refine Below.alloc ?_ ?_ _) | (with_reducible refine Below.setCell ?_ ?_ _) | (with_reducible refine Below.trans ?_ (Below.mono (by with_reducible assumption) ?_)) | go_size | (dsimp only; omega))), by simp⟩
    case round =>
      obtain ⟨k, hk, rfl, HZ, d0, d1, d2, d3, fw, hB, hw⟩ := hrel
      by_cases hlt : k < s.size
      · have hlt' : k < s.data.toList.length := by simpa using hlt
        have hst := all_step (p := isT) hlt'
        have hel : s.data.toList[k] = s[k] := rfl
        rw [hel] at hst
        have HST := Lib.hid hst
        clear hst hel
        cases hT : isT s[k]
        · have hT' : ¬ (s[k] = 83 ∨ s[k] = 84 ∨ s[k] = 116 ∨ s[k] = 76 ∨ s[k] = 108) := fun e => by have := isT_iff.mpr e; rw [hT] at this; simp at this
          have hv : wordV s = .tuple #[.agg #[.int .i64 0, .int .i64 0, .int .i64 0, .int .i64 0], .int .i64 2] := by unfold wordV; rw [if_neg (by rw [← HZ.out, HST.out, hT]; simp)]
          have HT := Lib.hid hT'
          have HVV := Lib.hid hv
          clear hv hT hT'
          go_wp2_with fail
          refine (l02Letter_no s[k] _ HT.out).mono ?_
          rintro e w2 ⟨rfl, b2⟩
          have zzb2 := b2.size; (try simp at zzb2); have zb2_0 : w.heap.size < w2.heap.size := (by omega); have kcb2_0 : ∀ o, w2.cell? ⟨w.heap.size, o, none⟩ = _ := fun o => b2.cell (p := ⟨w.heap.size, o, none⟩) (by go_size); have kfb2_0 : ∀ o, w2.frozen? ⟨w.heap.size, o, none⟩ = _ := fun o => b2.frozen (p := ⟨w.heap.size, o, none⟩) (by go_size); clear zzb2
          go_wp2
          exact bodyPost_ret (v := .tuple #[.agg #[.int .i64 0, .int .i64 0, .int .i64 0, .int .i64 0], .int .i64 2]) (by simp only [results, Try.results15]; go_simp) rfl ⟨congrArg Ending.returned HVV.out.symm, (by repeat' (first | (with_reducible exact Below.refl _ _) | (with_reducible assumption) | (with_reducible refine below_drewN ?_ _) | (with_reducible refine Below.drew ?_) | (with_reducible refine Below.alloc ?_ ?_ _) | (with_reducible refine Below.setCell ?_ ?_ _) | (with_reducible refine Below.trans ?_ (Below.mono (by with_reducible assumption) ?_)) | go_size | (dsimp only; omega)))⟩
        · have HT := Lib.hid (isT_iff.mp hT)
          have hnx : (s.data.toList.drop (k + 1)).all isT = s.data.toList.all isT := by rw [← HZ.out, HST.out, hT]; simp
          have HN := Lib.hid hnx
          clear hT hnx
          go_wp2_with fail
          refine (l02Letter_yes s[k] _ HT.out).mono ?_
          rintro e w2 ⟨rfl, b2⟩
          simp only [M4.v]
          have zzb2 := b2.size; (try simp at zzb2); have zb2_0 : w.heap.size < w2.heap.size := (by omega); have kcb2_0 : ∀ o, w2.cell? ⟨w.heap.size, o, none⟩ = _ := fun o => b2.cell (p := ⟨w.heap.size, o, none⟩) (by go_size); have kfb2_0 : ∀ o, w2.frozen? ⟨w.heap.size, o, none⟩ = _ := fun o => b2.frozen (p := ⟨w.heap.size, o, none⟩) (by go_size); clear zzb2
          go_wp2
          go_roundw
          case rel => exact ⟨k + 1, by omega, by go_num, HN.out, by go_simp, by go_simp, by go_simp, by go_simp, (by intro i; go_simp), (by repeat' (first | (with_reducible exact Below.refl _ _) | (with_reducible assumption) | (with_reducible refine below_drewN ?_ _) | (with_reducible refine Below.drew ?_) | (with_reducible refine Below.alloc ?_ ?_ _) | (with_reducible refine Below.setCell ?_ ?_ _) | (with_reducible refine Below.trans ?_ (Below.mono (by with_reducible assumption) ?_)) | go_size | (dsimp only; omega))), by go_size⟩
          case measure => simp [intOf]; omega
      · have hall : s.data.toList.all isT = true := by rw [← HZ.out, List.drop_of_length_le (by simp; omega)]; rfl
        have hv : wordV s = prodV (prodL M4.I (s.data.toList.map letM)) := by unfold wordV; rw [if_pos (by simp [hall, hsz])]
        have hlT : ∀ b ∈ s.data.toList, isT b = true := List.all_eq_true.mp hall
        have HV := Lib.hid hv
        have HL := Lib.hid hlT
        clear hall hv hlT
        go_wp2_with fail
        refine (l02Unit_c' _).mono ?_
        rintro e w2 ⟨rfl, b2⟩
        have zzb2 := b2.size; (try simp at zzb2); have zb2_0 : w.heap.size < w2.heap.size := (by omega); have kcb2_0 : ∀ o, w2.cell? ⟨w.heap.size, o, none⟩ = _ := fun o => b2.cell (p := ⟨w.heap.size, o, none⟩) (by go_size); have kfb2_0 : ∀ o, w2.frozen? ⟨w.heap.size, o, none⟩ = _ := fun o => b2.frozen (p := ⟨w.heap.size, o, none⟩) (by go_size); clear zzb2
        have hB2 : Below w.heap.size w w2 := (by repeat' (first | (with_reducible exact Below.refl _ _) | (with_reducible assumption) | (with_reducible refine below_drewN ?_ _) | (with_reducible refine Below.drew ?_) | (with_reducible refine Below.alloc ?_ ?_ _) | (with_reducible refine Below.setCell ?_ ?_ _) | (with_reducible refine Below.trans ?_ (Below.mono (by with_reducible assumption) ?_)) | go_size | (dsimp only; omega)))
        go_wp2
        obtain ⟨wo, rfl⟩ : ∃ wo : World, wo = wr := ⟨_, rfl⟩
        go_loopw [8, 9] (fun f i wr => ∃ (k : Nat) (b : Bool) (p q r t : Int), k ≤ s.size ∧ i = .int .i64 k ∧ f = .bool b ∧ Hid (At b ⟨p, q, r, t⟩ (s.data.toList.map letM) k) ∧
          wr.cell? ⟨w2.heap.size, 0, none⟩ = some (.int .i64 p) ∧ wr.cell? ⟨w2.heap.size, 1, none⟩ = some (.int .i64 q) ∧ wr.cell? ⟨w2.heap.size, 2, none⟩ = some (.int .i64 r) ∧ wr.cell? ⟨w2.heap.size, 3, none⟩ = some (.int .i64 t) ∧ (∀ i, wr.frozen? ⟨w2.heap.size, i, none⟩ = false) ∧
          wr.cell? ⟨w.heap.size, 0, none⟩ = some (.int .i64 0) ∧ wr.cell? ⟨w.heap.size, 1, none⟩ = some (.int .i64 0) ∧ wr.cell? ⟨w.heap.size, 2, none⟩ = some (.int .i64 0) ∧ wr.cell? ⟨w.heap.size, 3, none⟩ = some (.int .i64 0) ∧ (∀ i, wr.frozen? ⟨w.heap.size, i, none⟩ = false) ∧ Below w.heap.size w wr ∧ w.heap.size < wr.heap.size ∧ w2.heap.size < wr.heap.size) (fun f i wr => s.size - (intOf i).toNat)
        case atStart => exact ⟨0, true, 1, 0, 0, 1, Nat.zero_le _, rfl, rfl, Lib.hid (by unfold At; rw [if_pos rfl]; exact ⟨by decide, rfl⟩), by go_cell, by go_cell, by go_cell, by go_cell, (by intro i; first | (simp; done) | (go_simp; done)), by go_simp, by go_simp, by go_simp, by go_simp, (by intro i; go_simp), (by repeat' (first | (with_reducible exact Below.refl _ _) | (with_reducible assumption) | (with_reducible refine below_drewN ?_ _) | (with_reducible refine Below.drew ?_) | (with_reducible refine Below.alloc ?_ ?_ _) | (with_reducible refine Below.setCell ?_ ?_ _) | (with_reducible refine Below.trans ?_ (Below.mono (by with_reducible assumption) ?_)) | go_size | (dsimp only; omega))), by go_size, by go_size⟩
        case round =>
          obtain ⟨j, b, p, q, r, t, hj, rfl, rfl, HA, c0, c1, c2, c3, fg, d0', d1', d2', d3', fw', hB', hw', hg'⟩ := hrel
          clear d0 d1 d2 d3 fw hB hw kcb2_0 kfb2_0 b2 hB2
          have hne : ¬ w.heap.size = w2.heap.size := by omega
          have hne' : ¬ w2.heap.size = w.heap.size := by omega
          cases b
          · have hnone : wordV s = .tuple #[.agg #[.int .i64 0, .int .i64 0, .int .i64 0, .int .i64 0], .int .i64 3] := by
              have := HA.out
              simp only [At] at this
              rw [HV.out, this]; rfl
            have HN := Lib.hid hnone
            clear hnone
            by_cases hlt2 : j < s.size
            · go_wp2
              exact bodyPost_ret (v := .tuple #[.agg #[.int .i64 0, .int .i64 0, .int .i64 0, .int .i64 0], .int .i64 3]) (by simp only [results, Try.results15]; go_simp) rfl ⟨congrArg Ending.returned HN.out.symm, (by repeat' (first | (with_reducible exact Below.refl _ _) | (with_reducible assumption) | (with_reducible refine below_drewN ?_ _) | (with_reducible refine Below.drew ?_) | (with_reducible refine Below.alloc ?_ ?_ _) | (with_reducible refine Below.setCell ?_ ?_ _) | (with_reducible refine Below.trans ?_ (Below.mono (by with_reducible assumption) ?_)) | go_size | (dsimp only; omega)))⟩
            · go_wp2
              exact bodyPost_ret (v := .tuple #[.agg #[.int .i64 0, .int .i64 0, .int .i64 0, .int .i64 0], .int .i64 3]) (by simp only [results, Try.results15]; go_simp) rfl ⟨congrArg Ending.returned HN.out.symm, (by repeat' (first | (with_reducible exact Below.refl _ _) | (with_reducible assumption) | (with_reducible refine below_drewN ?_ _) | (with_reducible refine Below.drew ?_) | (with_reducible refine Below.alloc ?_ ?_ _) | (with_reducible refine Below.setCell ?_ ?_ _) | (with_reducible refine Below.trans ?_ (Below.mono (by with_reducible assumption) ?_)) | go_size | (dsimp only; omega)))⟩
          · by_cases hlt2 : j < s.size
            · have hA := HA.out
              simp only [At] at hA
              have hlt' : j < s.data.toList.length := by simpa using hlt2
              have hel : s.data.toList[j] = s[j] := rfl
              have hx : (s.data.toList.map letM)[j]? = some (letM s[j]) := by rw [List.getElem?_eq_getElem (by simpa using hlt2)]; simp; rfl
              have hT := HL.out _ (List.getElem_mem hlt')
              rw [hel] at hT
              have HT := Lib.hid (isT_iff.mp hT)
              have HX2 := Lib.hid hx
              have HM := Lib.hid hA.1
              have HP := Lib.hid hA.2
              have HE := Lib.hid (letM_ent s[j])
              clear hA hel hx hT
              go_wp2_with fail
              refine (l02Letter_yes s[j] _ HT.out).mono ?_
              rintro e w3 ⟨rfl, b3⟩
              have zzb3 := b3.size; (try simp at zzb3); have zb3_w0 : w.heap.size < w3.heap.size := (by omega); have kcb3_w0 : ∀ o, w3.cell? ⟨w.heap.size, o, none⟩ = _ := fun o => b3.cell (p := ⟨w.heap.size, o, none⟩) (by go_size); have kfb3_w0 : ∀ o, w3.frozen? ⟨w.heap.size, o, none⟩ = _ := fun o => b3.frozen (p := ⟨w.heap.size, o, none⟩) (by go_size); have zb3_w20 : w2.heap.size < w3.heap.size := (by omega); have kcb3_w20 : ∀ o, w3.cell? ⟨w2.heap.size, o, none⟩ = _ := fun o => b3.cell (p := ⟨w2.heap.size, o, none⟩) (by go_size); have kfb3_w20 : ∀ o, w3.frozen? ⟨w2.heap.size, o, none⟩ = _ := fun o => b3.frozen (p := ⟨w2.heap.size, o, none⟩) (by go_size); clear zzb3
              generalize hm : letM s[j] = m at *
              have hMV : m.v = .agg #[.int .i64 m.a, .int .i64 m.b, .int .i64 m.c, .int .i64 m.d] := rfl
              rw [hMV]
              clear hm hMV
              cases he : M4.ent (M4.mul ⟨p, q, r, t⟩ m)
              · have hno := prodL_no HX2.out HP.out he
                have HN := Lib.hid hno
                have HE2 := Lib.hid he
                clear hno he
                go_wp2_with fail
                refine (l01Times_no ⟨p, q, r, t⟩ m _ HM.out HE.out HE2.out).mono ?_
                rintro e w4 ⟨rfl, b4⟩
                have zzb4 := b4.size; (try simp at zzb4); have zb4_w0 : w.heap.size < w4.heap.size := (by omega); have kcb4_w0 : ∀ o, w4.cell? ⟨w.heap.size, o, none⟩ = _ := fun o => b4.cell (p := ⟨w.heap.size, o, none⟩) (by go_size); have kfb4_w0 : ∀ o, w4.frozen? ⟨w.heap.size, o, none⟩ = _ := fun o => b4.frozen (p := ⟨w.heap.size, o, none⟩) (by go_size); have zb4_w20 : w2.heap.size < w4.heap.size := (by omega); have kcb4_w20 : ∀ o, w4.cell? ⟨w2.heap.size, o, none⟩ = _ := fun o => b4.cell (p := ⟨w2.heap.size, o, none⟩) (by go_size); have kfb4_w20 : ∀ o, w4.frozen? ⟨w2.heap.size, o, none⟩ = _ := fun o => b4.frozen (p := ⟨w2.heap.size, o, none⟩) (by go_size); clear zzb4
                go_wp2
                go_roundw
                case rel => exact ⟨j + 1, false, 0, 0, 0, 0, by omega, by go_num, rfl, Lib.hid (by unfold At; rw [if_neg (by simp)]; exact HN.out), by go_simp, by go_simp, by go_simp, by go_simp, (by intro i; go_simp), by go_simp, by go_simp, by go_simp, by go_simp, (by intro i; go_simp), (by repeat' (first | (with_reducible exact Below.refl _ _) | (with_reducible assumption) | (with_reducible refine below_drewN ?_ _) | (with_reducible refine Below.drew ?_) | (with_reducible refine Below.alloc ?_ ?_ _) | (with_reducible refine Below.setCell ?_ ?_ _) | (with_reducible refine Below.trans ?_ (Below.mono (by with_reducible assumption) ?_)) | go_size | (dsimp only; omega))), by go_size, by go_size⟩
                case measure => simp [intOf]; omega
              · have hgo := prodL_go HX2.out HP.out he
                have HN := Lib.hid hgo
                have HE2 := Lib.hid he
                clear hgo he
                go_wp2_with fail
                refine (l01Times_yes ⟨p, q, r, t⟩ m _ HM.out HE.out HE2.out).mono ?_
                rintro e w4 ⟨rfl, b4⟩
                have zzb4 := b4.size; (try simp at zzb4); have zb4_w0 : w.heap.size < w4.heap.size := (by omega); have kcb4_w0 : ∀ o, w4.cell? ⟨w.heap.size, o, none⟩ = _ := fun o => b4.cell (p := ⟨w.heap.size, o, none⟩) (by go_size); have kfb4_w0 : ∀ o, w4.frozen? ⟨w.heap.size, o, none⟩ = _ := fun o => b4.frozen (p := ⟨w.heap.size, o, none⟩) (by go_size); have zb4_w20 : w2.heap.size < w4.heap.size := (by omega); have kcb4_w20 : ∀ o, w4.cell? ⟨w2.heap.size, o, none⟩ = _ := fun o => b4.cell (p := ⟨w2.heap.size, o, none⟩) (by go_size); have kfb4_w20 : ∀ o, w4.frozen? ⟨w2.heap.size, o, none⟩ = _ := fun o => b4.frozen (p := ⟨w2.heap.size, o, none⟩) (by go_size); clear zzb4
                generalize hmm : M4.mul ⟨p, q, r, t⟩ m = mm at *
                have hMV : mm.v = .agg #[.int .i64 mm.a, .int .i64 mm.b, .int .i64 mm.c, .int .i64 mm.d] := rfl
                rw [hMV]
                clear hmm hMV
                go_wp2
                go_roundw
                case rel => exact ⟨j + 1, true, mm.a, mm.b, mm.c, mm.d, by omega, by go_num, rfl, Lib.hid (by unfold At; rw [if_pos rfl]; exact ⟨HE2.out, HN.out⟩), by go_simp, by go_simp, by go_simp, by go_simp, (by intro i; go_simp), by go_simp, by go_simp, by go_simp, by go_simp, (by intro i; go_simp), (by repeat' (first | (with_reducible exact Below.refl _ _) | (with_reducible assumption) | (with_reducible refine below_drewN ?_ _) | (with_reducible refine Below.drew ?_) | (with_reducible refine Below.alloc ?_ ?_ _) | (with_reducible refine Below.setCell ?_ ?_ _) | (with_reducible refine Below.trans ?_ (Below.mono (by with_reducible assumption) ?_)) | go_size | (dsimp only; omega))), by go_size, by go_size⟩
                case measure => simp [intOf]; omega
            · have hend : wordV s = .tuple #[.agg #[.int .i64 p, .int .i64 q, .int .i64 r, .int .i64 t], .int .i64 0] := by
                have hA := HA.out
                simp only [At] at hA
                rw [HV.out, prodL_end (by simp; omega) hA.2]; rfl
              have HN := Lib.hid hend
              clear hend
              go_wp2
              exact bodyPost_ret (v := .tuple #[.agg #[.int .i64 p, .int .i64 q, .int .i64 r, .int .i64 t], .int .i64 0]) (by simp only [results, Try.results15]; go_simp) rfl ⟨congrArg Ending.returned HN.out.symm, (by repeat' (first | (with_reducible exact Below.refl _ _) | (with_reducible assumption) | (with_reducible refine below_drewN ?_ _) | (with_reducible refine Below.drew ?_) | (with_reducible refine Below.alloc ?_ ?_ _) | (with_reducible refine Below.setCell ?_ ?_ _) | (with_reducible refine Below.trans ?_ (Below.mono (by with_reducible assumption) ?_)) | go_size | (dsimp only; omega)))⟩
  · have hv : wordV s = .tuple #[.agg #[.int .i64 0, .int .i64 0, .int .i64 0, .int .i64 0], .int .i64 2] := by unfold wordV; rw [if_neg (by simp; intro _; omega)]
    rw [hv]
    clear hv
    have hsn : 200 < (s.size : Int) := by omega
    go_enter Try.func15, Try.ntmps15
    go_wp2
    exact bodyPost_ret (v := .tuple #[.agg #[.int .i64 0, .int .i64 0, .int .i64 0, .int .i64 0], .int .i64 2]) (by simp only [results, Try.results15]; go_simp) rfl ⟨rfl, (by repeat' (first | (with_reducible exact Below.refl _ _) | (with_reducible assumption) | (with_reducible refine below_drewN ?_ _) | (with_reducible refine Below.drew ?_) | (with_reducible refine Below.alloc ?_ ?_ _) | (with_reducible refine Below.setCell ?_ ?_ _) | (with_reducible refine Below.trans ?_ (Below.mono (by with_reducible assumption) ?_)) | go_size | (dsimp only; omega)))⟩
end Go.Proofs.Ytgpnfjpnbchglaa
