/- FractionOfPath: the reference's way; both functions; the law. -/
import Derived.Test.YtagjgpbcpjcceaaDoorPF
import Derived.Test.YtagjgpbcpjcceaaDoorSH
import Derived.Shelf.Strings.SlTrimAscii
namespace Go.Proofs.YtagjgpbcpjcceaaDoor
open Go.RowKit
set_option linter.unusedVariables false
set_option linter.unusedSimpArgs false
def isLR (b : UInt8) : Bool := [76, 82].contains b
theorem trim_all {l : List UInt8} (h : l.all isLR = true) : Lib.trimS l [76, 82] = [] := by
  have hd : ∀ r : List UInt8, (∀ x ∈ r, isLR x = true) → r.dropWhile ([76, 82].contains ·) = [] := by
    intro r hr
    induction r with
    | nil => rfl
    | cons x r ih =>
      have h1 : [76, 82].contains x = true := hr x (by simp)
      simp only [List.dropWhile, h1]
      exact ih (fun y hy => hr y (by simp [hy]))
  have h' := List.all_eq_true.mp h
  unfold Lib.trimS Lib.trimLeftS Lib.trimRightS
  rw [hd l.reverse (fun x hx => h' x (by simpa using hx))]
  rfl
theorem all_trim {l : List UInt8} (h : Lib.trimS l [76, 82] = []) : l.all isLR = true := by
  have hd : ∀ r : List UInt8, r.dropWhile ([76, 82].contains ·) = [] → ∀ x ∈ r, isLR x = true := by
    intro r
    induction r with
    | nil => intro _ x hx; simp at hx
    | cons y r ih =>
      intro h x hx
      cases hy : [76, 82].contains y
      · simp only [List.dropWhile, hy] at h; cases h
      · simp only [List.dropWhile, hy] at h
        rcases List.mem_cons.mp hx with rfl | hx
        · exact hy
        · exact ih h x hx
  have hh : ∀ r : List UInt8, ∀ y t, r.dropWhile ([76, 82].contains ·) = y :: t → isLR y = false := by
    intro r
    induction r with
    | nil => intro y t h; simp at h
    | cons z r ih =>
      intro y t h
      cases hz : [76, 82].contains z
      · simp only [List.dropWhile, hz] at h; injection h with h1 _; subst h1; exact hz
      · simp only [List.dropWhile, hz] at h; exact ih y t h
  unfold Lib.trimS Lib.trimLeftS Lib.trimRightS at h
  have h1 := hd _ h
  apply List.all_eq_true.mpr
  cases hr : l.reverse.dropWhile ([76, 82].contains ·) with
  | nil => intro x hx; exact hd _ hr x (by simpa using hx)
  | cons y t =>
    exfalso
    have h2 := h1 y (by rw [hr]; simp)
    rw [hh _ y t hr] at h2
    cases h2
/-- what FractionOfPath answers -/
def pathV (s : ByteArray) : Value := if s.size ≤ 40 ∧ s.data.toList.all isLR = true then .tuple #[.agg #[.int .i64 ((fol 0 1 1 0 s.data.toList).1), .int .i64 ((fol 0 1 1 0 s.data.toList).2)], .int .i64 0] else .tuple #[.agg #[.int .i64 0, .int .i64 0], .int .i64 2]
theorem pathV_yes {s : ByteArray} {p q : Int} (h : s.size ≤ 40) (h2 : s.data.toList.all isLR = true) (hf : fol 0 1 1 0 s.data.toList = (p, q)) : pathV s = .tuple #[.agg #[.int .i64 p, .int .i64 q], .int .i64 0] := by
  unfold pathV
  rw [if_pos ⟨h, h2⟩, hf]
theorem pathV_no {s : ByteArray} (h : ¬ (s.size ≤ 40 ∧ s.data.toList.all isLR = true)) : pathV s = .tuple #[.agg #[.int .i64 0, .int .i64 0], .int .i64 2] := if_neg h
theorem pathV_form (s : ByteArray) : ∃ p q c : Int, pathV s = .tuple #[.agg #[.int .i64 p, .int .i64 q], .int .i64 c] := by
  unfold pathV
  split <;> exact ⟨_, _, _, rfl⟩
theorem isLR_of {b : UInt8} : isLR b = true ↔ (b = 76 ∨ b = 82) := by simp [isLR]
theorem byte_ne2 {x : UInt8} (h : ¬ x = 82) : ((x.toNat : Int) == 82) = false := by
  rw [beq_eq_false_iff_ne]
  intro e
  exact h (UInt8.toNat_inj.mp (show x.toNat = 82 by omega))
set_option maxRecDepth 100000 in
set_option maxHeartbeats 4000000 in
theorem l03OfPath_c (s : ByteArray) (p q : Int) (w : World) (hs : s.size ≤ 40) (hf : fol 0 1 1 0 s.data.toList = (p, q)) :
    Calls Tryd.prog 22 #[.string s] w fun e w' => e = .returned (.agg #[.int .i64 p, .int .i64 q]) ∧ Below w.heap.size w w' := by
  have HF := Lib.hid hf
  have HP := Lib.hid Par.start
  clear hf
  go_enter Tryd.func22, Tryd.ntmps22
  go_wp2
  generalize hw0 : World.alloc _ _ = w0
  have r0 : w0.cell? ⟨w.heap.size, 0, none⟩ = some (.int .i64 0) := by subst hw0; go_simp
  have r1 : w0.cell? ⟨w.heap.size, 1, none⟩ = some (.int .i64 0) := by subst hw0; go_simp
  have l0 : w0.cell? ⟨w.heap.size + 1, 0, none⟩ = some (.int .i64 0) := by subst hw0; go_simp
  have l1 : w0.cell? ⟨w.heap.size + 1, 1, none⟩ = some (.int .i64 1) := by subst hw0; go_simp
  have c0 : w0.cell? ⟨w.heap.size + 1 + 1, 0, none⟩ = some (.int .i64 1) := by subst hw0; go_simp
  have c1 : w0.cell? ⟨w.heap.size + 1 + 1, 1, none⟩ = some (.int .i64 0) := by subst hw0; go_simp
  have rf : ∀ i, w0.frozen? ⟨w.heap.size, i, none⟩ = false := by subst hw0; intro i; go_simp
  have lf : ∀ i, w0.frozen? ⟨w.heap.size + 1, i, none⟩ = false := by subst hw0; intro i; go_simp
  have cf : ∀ i, w0.frozen? ⟨w.heap.size + 1 + 1, i, none⟩ = false := by subst hw0; intro i; go_simp
  have hB0 : Below w.heap.size w w0 := by subst hw0; exact (by repeat' (first | (with_reducible exact Below.refl _ _) | (with_reducible assumption) | (with_reducible refine below_drewN ?_ _) | (with_reducible refine Below.drew ?_) | (with_reducible refine Below.alloc ?_ ?_ _) | (with_reducible refine Below.setCell ?_ ?_ _) | (with_reducible refine Below.trans ?_ (Below.mono (by with_reducible assumption) ?_)) | go_size | (dsimp only; omega)))
  have hs0 : w.heap.size + 1 + 1 < w0.heap.size := by subst hw0; go_size
  clear hw0
  go_loopw [5] (fun i wr => ∃ (k : Nat) (a b c d : Int), i = .int .i64 k ∧ k ≤ s.size ∧ Hid (Par k a b c d) ∧ Hid (fol a b c d (s.data.toList.drop k) = (p, q)) ∧ wr.cell? ⟨w.heap.size, 0, none⟩ = some (.int .i64 0) ∧ wr.cell? ⟨w.heap.size, 1, none⟩ = some (.int .i64 0) ∧ wr.cell? ⟨w.heap.size + 1, 0, none⟩ = some (.int .i64 a) ∧ wr.cell? ⟨w.heap.size + 1, 1, none⟩ = some (.int .i64 b) ∧ wr.cell? ⟨w.heap.size + 1 + 1, 0, none⟩ = some (.int .i64 c) ∧ wr.cell? ⟨w.heap.size + 1 + 1, 1, none⟩ = some (.int .i64 d) ∧ (∀ i, wr.frozen? ⟨w.heap.size, i, none⟩ = false) ∧ (∀ i, wr.frozen? ⟨w.heap.size + 1, i, none⟩ = false) ∧ (∀ i, wr.frozen? ⟨w.heap.size + 1 + 1, i, none⟩ = false) ∧ Below w.heap.size w wr ∧ w.heap.size + 1 + 1 < wr.heap.size) (fun i wr => s.size - (intOf i).toNat)
  case atStart => exact ⟨0, 0, 1, 1, 0, rfl, by omega, HP, Lib.hid (by simpa using HF.out), r0, r1, l0, l1, c0, c1, rf, lf, cf, hB0, hs0⟩
  case round =>
    clear r0 r1 l0 l1 c0 c1 rf lf cf hB0 hs0 HP
    obtain ⟨k, a, b, c, d, rfl, hk, HP, HF2, r0, r1, l0, l1, c0, c1, rf, lf, cf, hB, hs2⟩ := hrel
    obtain ⟨ha1, hb1, hc1, hd1⟩ := HP.out.le (by omega)
    have ha0 := HP.out.a0
    have hb0 := HP.out.b0
    have hc0 := HP.out.c0
    have hd0 := HP.out.d0
    have HG := Lib.hid HP.out.gcd
    have hpos := HP.out.pos
    have hs1 : w.heap.size + 1 < wr.heap.size := by omega
    have hs0 : w.heap.size < wr.heap.size := by omega
    by_cases hlt : k < s.size
    · have hki : (k : Int) < (s.size : Int) := by omega
      have hlen : k < s.data.toList.length := by simpa using hlt
      have hel : s.data.toList[k] = s[k] := rfl
      have hdr : s.data.toList.drop k = s[k] :: s.data.toList.drop (k + 1) := by rw [List.drop_eq_getElem_cons hlen, hel]
      have HDR := Lib.hid hdr
      clear hdr hel
      by_cases hx : s[k] = 76
      · have HP2 := Lib.hid HP.out.left
        have HF3 : Hid (fol a b (a + c) (b + d) (s.data.toList.drop (k + 1)) = (p, q)) := by
          have := HF2.out
          rw [HDR.out, fol, if_pos hx] at this
          exact Lib.hid this
        have hbt : ((s[k].toNat : Int) == 76) = true := by rw [hx]; rfl
        go_wp2_with fail
        refine (l03Mediant_g a b c d _ ha0 (by omega) hb0 (by omega) hc0 (by omega) hd0 (by omega) HG.out hpos).mono ?_
        rintro e w2 ⟨rfl, b2⟩
        have zzb2 := b2.size; (try simp at zzb2); have zb2_0 : w.heap.size < w2.heap.size := (by omega); have kcb2_0 : ∀ o, w2.cell? ⟨w.heap.size, o, none⟩ = _ := fun o => b2.cell (p := ⟨w.heap.size, o, none⟩) (by go_size); have kfb2_0 : ∀ o, w2.frozen? ⟨w.heap.size, o, none⟩ = _ := fun o => b2.frozen (p := ⟨w.heap.size, o, none⟩) (by go_size); have zb2_1 : w.heap.size + 1 < w2.heap.size := (by omega); have kcb2_1 : ∀ o, w2.cell? ⟨w.heap.size + 1, o, none⟩ = _ := fun o => b2.cell (p := ⟨w.heap.size + 1, o, none⟩) (by go_size); have kfb2_1 : ∀ o, w2.frozen? ⟨w.heap.size + 1, o, none⟩ = _ := fun o => b2.frozen (p := ⟨w.heap.size + 1, o, none⟩) (by go_size); clear zzb2
        have zzb2 := b2.size; (try simp at zzb2); have zb2_0 : w.heap.size+1+1 < w2.heap.size := (by omega); have kcb2_0 : ∀ o, w2.cell? ⟨w.heap.size+1+1, o, none⟩ = _ := fun o => b2.cell (p := ⟨w.heap.size+1+1, o, none⟩) (by go_size); have kfb2_0 : ∀ o, w2.frozen? ⟨w.heap.size+1+1, o, none⟩ = _ := fun o => b2.frozen (p := ⟨w.heap.size+1+1, o, none⟩) (by go_size); clear zzb2
        have hB2 : Below w.heap.size w w2 := Below.trans hB (Below.mono b2 (by omega))
        go_wp2
        go_roundw
        case rel => exact ⟨k + 1, a, b, a + c, b + d, by go_num, by omega, HP2, HF3, by go_simp, by go_simp, by go_simp, by go_simp, by go_simp, by go_simp, (by intro i; go_simp), (by intro i; go_simp), (by intro i; go_simp), (by repeat' (first | (with_reducible exact Below.refl _ _) | (with_reducible assumption) | (with_reducible refine below_drewN ?_ _) | (with_reducible refine Below.drew ?_) | (with_reducible refine Below.alloc ?_ ?_ _) | (with_reducible refine Below.setCell ?_ ?_ _) | (with_reducible refine Below.trans ?_ (Below.mono (by with_reducible assumption) ?_)) | go_size | (dsimp only; omega))), by go_size⟩
        case measure => simp [intOf]; omega
      · have HP2 := Lib.hid HP.out.right
        have HF3 : Hid (fol (a + c) (b + d) c d (s.data.toList.drop (k + 1)) = (p, q)) := by
          have := HF2.out
          rw [HDR.out, fol, if_neg hx] at this
          exact Lib.hid this
        have hbt : ((s[k].toNat : Int) == 76) = false := byte_ne hx
        go_wp2_with fail
        refine (l03Mediant_g a b c d _ ha0 (by omega) hb0 (by omega) hc0 (by omega) hd0 (by omega) HG.out hpos).mono ?_
        rintro e w2 ⟨rfl, b2⟩
        have zzb2 := b2.size; (try simp at zzb2); have zb2_0 : w.heap.size < w2.heap.size := (by omega); have kcb2_0 : ∀ o, w2.cell? ⟨w.heap.size, o, none⟩ = _ := fun o => b2.cell (p := ⟨w.heap.size, o, none⟩) (by go_size); have kfb2_0 : ∀ o, w2.frozen? ⟨w.heap.size, o, none⟩ = _ := fun o => b2.frozen (p := ⟨w.heap.size, o, none⟩) (by go_size); have zb2_1 : w.heap.size + 1 < w2.heap.size := (by omega); have kcb2_1 : ∀ o, w2.cell? ⟨w.heap.size + 1, o, none⟩ = _ := fun o => b2.cell (p := ⟨w.heap.size + 1, o, none⟩) (by go_size); have kfb2_1 : ∀ o, w2.frozen? ⟨w.heap.size + 1, o, none⟩ = _ := fun o => b2.frozen (p := ⟨w.heap.size + 1, o, none⟩) (by go_size); clear zzb2
        have zzb2 := b2.size; (try simp at zzb2); have zb2_0 : w.heap.size+1+1 < w2.heap.size := (by omega); have kcb2_0 : ∀ o, w2.cell? ⟨w.heap.size+1+1, o, none⟩ = _ := fun o => b2.cell (p := ⟨w.heap.size+1+1, o, none⟩) (by go_size); have kfb2_0 : ∀ o, w2.frozen? ⟨w.heap.size+1+1, o, none⟩ = _ := fun o => b2.frozen (p := ⟨w.heap.size+1+1, o, none⟩) (by go_size); clear zzb2
        have hB2 : Below w.heap.size w w2 := Below.trans hB (Below.mono b2 (by omega))
        go_wp2
        go_roundw
        case rel => exact ⟨k + 1, a + c, b + d, c, d, by go_num, by omega, HP2, HF3, by go_simp, by go_simp, by go_simp, by go_simp, by go_simp, by go_simp, (by intro i; go_simp), (by intro i; go_simp), (by intro i; go_simp), (by repeat' (first | (with_reducible exact Below.refl _ _) | (with_reducible assumption) | (with_reducible refine below_drewN ?_ _) | (with_reducible refine Below.drew ?_) | (with_reducible refine Below.alloc ?_ ?_ _) | (with_reducible refine Below.setCell ?_ ?_ _) | (with_reducible refine Below.trans ?_ (Below.mono (by with_reducible assumption) ?_)) | go_size | (dsimp only; omega))), by go_size⟩
        case measure => simp [intOf]; omega
    · obtain rfl : k = s.size := by omega
      have hd2 : s.data.toList.drop s.size = [] := List.drop_of_length_le (by simp)
      have h2 := HF2.out
      rw [hd2, fol] at h2
      obtain ⟨rfl, rfl⟩ := Prod.mk.inj h2
      clear h2 hd2 HF HF2 HP
      go_wp2_with fail
      refine (l03Mediant_g a b c d _ ha0 (by omega) hb0 (by omega) hc0 (by omega) hd0 (by omega) HG.out hpos).mono ?_
      rintro e w2 ⟨rfl, b2⟩
      have zzb2 := b2.size; (try simp at zzb2); have zb2_0 : w.heap.size < w2.heap.size := (by omega); have kcb2_0 : ∀ o, w2.cell? ⟨w.heap.size, o, none⟩ = _ := fun o => b2.cell (p := ⟨w.heap.size, o, none⟩) (by go_size); have kfb2_0 : ∀ o, w2.frozen? ⟨w.heap.size, o, none⟩ = _ := fun o => b2.frozen (p := ⟨w.heap.size, o, none⟩) (by go_size); have zb2_1 : w.heap.size + 1 < w2.heap.size := (by omega); have kcb2_1 : ∀ o, w2.cell? ⟨w.heap.size + 1, o, none⟩ = _ := fun o => b2.cell (p := ⟨w.heap.size + 1, o, none⟩) (by go_size); have kfb2_1 : ∀ o, w2.frozen? ⟨w.heap.size + 1, o, none⟩ = _ := fun o => b2.frozen (p := ⟨w.heap.size + 1, o, none⟩) (by go_size); clear zzb2
      have zzb2 := b2.size; (try simp at zzb2); have zb2_0 : w.heap.size+1+1 < w2.heap.size := (by omega); have kcb2_0 : ∀ o, w2.cell? ⟨w.heap.size+1+1, o, none⟩ = _ := fun o => b2.cell (p := ⟨w.heap.size+1+1, o, none⟩) (by go_size); have kfb2_0 : ∀ o, w2.frozen? ⟨w.heap.size+1+1, o, none⟩ = _ := fun o => b2.frozen (p := ⟨w.heap.size+1+1, o, none⟩) (by go_size); clear zzb2
      have hB2 : Below w.heap.size w w2 := Below.trans hB (Below.mono b2 (by omega))
      go_wp2
      exact bodyPost_ret (v := .agg #[.int .i64 (a + c), .int .i64 (b + d)]) (by simp only [results, Tryd.results22]; go_simp) rfl ⟨rfl, (by repeat' (first | (with_reducible exact Below.refl _ _) | (with_reducible assumption) | (with_reducible refine below_drewN ?_ _) | (with_reducible refine Below.drew ?_) | (with_reducible refine Below.alloc ?_ ?_ _) | (with_reducible refine Below.setCell ?_ ?_ _) | (with_reducible refine Below.trans ?_ (Below.mono (by with_reducible assumption) ?_)) | go_size | (dsimp only; omega)))⟩
set_option maxHeartbeats 1000000 in
theorem FractionOfPath_c (s : ByteArray) (w : World) (hs : s.size ≤ 1000000000000) :
    Calls Tryd.prog 9 #[.string s] w fun e w' => e = .returned (pathV s) ∧ Below w.heap.size w w' := by
  by_cases h40 : s.size ≤ 40
  case neg =>
    have e0 : 40 < (s.size : Int) := by omega
    rw [pathV_no (fun h => h40 h.1)]
    go_enter Tryd.func9, Tryd.ntmps9
    go_wp2
    exact bodyPost_ret (v := .tuple #[.agg #[.int .i64 0, .int .i64 0], .int .i64 2]) (by simp only [results, Tryd.results9]; go_simp) rfl ⟨rfl, (by repeat' (first | (with_reducible exact Below.refl _ _) | (with_reducible assumption) | (with_reducible refine below_drewN ?_ _) | (with_reducible refine Below.drew ?_) | (with_reducible refine Below.alloc ?_ ?_ _) | (with_reducible refine Below.setCell ?_ ?_ _) | (with_reducible refine Below.trans ?_ (Below.mono (by with_reducible assumption) ?_)) | go_size | (dsimp only; omega)))⟩
  case pos =>
    have e0 : ¬ (40 < (s.size : Int)) := by omega
    cases ha : s.data.toList.all isLR
    · rw [pathV_no (fun h => by rw [ha] at h; simp at h)]
      obtain ⟨y, t, ht⟩ : ∃ y t, Lib.trimS s.data.toList [76, 82] = y :: t := by
        cases hx : Lib.trimS s.data.toList [76, 82] with
        | nil => rw [all_trim hx] at ha; cases ha
        | cons y t => exact ⟨_, _, rfl⟩
      have HT := Lib.hid ht
      clear ht ha
      go_enter Tryd.func9, Tryd.ntmps9
      go_wp2_with fail
      refine (Any.strings_Trim_laid Tryd.lays160 (by kernel_rfl) s ⟨#[76, 82]⟩ _ (by omega) (by decide) (by intro j b hj; match j, hj with | 0, hj => simp at hj; subst hj; decide | 1, hj => simp at hj; subst hj; decide | j + 2, hj => simp at hj)).mono ?_
      rintro e w2 ⟨rfl, b2⟩
      rw [show Lib.trimS s.data.toList (⟨#[76, 82]⟩ : ByteArray).data.toList = y :: t from HT.out]
      have zzb2 := b2.size; (try simp at zzb2); have zb2_0 : w.heap.size < w2.heap.size := (by omega); have kcb2_0 : ∀ o, w2.cell? ⟨w.heap.size, o, none⟩ = _ := fun o => b2.cell (p := ⟨w.heap.size, o, none⟩) (by go_size); have kfb2_0 : ∀ o, w2.frozen? ⟨w.heap.size, o, none⟩ = _ := fun o => b2.frozen (p := ⟨w.heap.size, o, none⟩) (by go_size); clear zzb2
      go_wp2
      exact bodyPost_ret (v := .tuple #[.agg #[.int .i64 0, .int .i64 0], .int .i64 2]) (by simp only [results, Tryd.results9]; go_simp) rfl ⟨rfl, (by repeat' (first | (with_reducible exact Below.refl _ _) | (with_reducible assumption) | (with_reducible refine below_drewN ?_ _) | (with_reducible refine Below.drew ?_) | (with_reducible refine Below.alloc ?_ ?_ _) | (with_reducible refine Below.setCell ?_ ?_ _) | (with_reducible refine Below.trans ?_ (Below.mono (by with_reducible assumption) ?_)) | go_size | (dsimp only; omega)))⟩
    · obtain ⟨p, q, hf⟩ : ∃ p q, fol 0 1 1 0 s.data.toList = (p, q) := ⟨_, _, rfl⟩
      rw [pathV_yes h40 ha hf]
      have HT := Lib.hid (trim_all ha)
      have HF := Lib.hid hf
      clear ha hf
      go_enter Tryd.func9, Tryd.ntmps9
      go_wp2_with fail
      refine (Any.strings_Trim_laid Tryd.lays160 (by kernel_rfl) s ⟨#[76, 82]⟩ _ (by omega) (by decide) (by intro j b hj; match j, hj with | 0, hj => simp at hj; subst hj; decide | 1, hj => simp at hj; subst hj; decide | j + 2, hj => simp at hj)).mono ?_
      rintro e w2 ⟨rfl, b2⟩
      rw [show Lib.trimS s.data.toList (⟨#[76, 82]⟩ : ByteArray).data.toList = [] from HT.out]
      have zzb2 := b2.size; (try simp at zzb2); have zb2_0 : w.heap.size < w2.heap.size := (by omega); have kcb2_0 : ∀ o, w2.cell? ⟨w.heap.size, o, none⟩ = _ := fun o => b2.cell (p := ⟨w.heap.size, o, none⟩) (by go_size); have kfb2_0 : ∀ o, w2.frozen? ⟨w.heap.size, o, none⟩ = _ := fun o => b2.frozen (p := ⟨w.heap.size, o, none⟩) (by go_size); clear zzb2
      go_wp2_with fail
      refine (follow_c s p q _ h40 HF.out).mono ?_
      rintro e w3 ⟨rfl, b3⟩
      have zzb3 := b3.size; (try simp at zzb3); have zb3_0 : w.heap.size < w3.heap.size := (by omega); have kcb3_0 : ∀ o, w3.cell? ⟨w.heap.size, o, none⟩ = _ := fun o => b3.cell (p := ⟨w.heap.size, o, none⟩) (by go_size); have kfb3_0 : ∀ o, w3.frozen? ⟨w.heap.size, o, none⟩ = _ := fun o => b3.frozen (p := ⟨w.heap.size, o, none⟩) (by go_size); clear zzb3
      go_wp2
      exact bodyPost_ret (v := .tuple #[.agg #[.int .i64 p, .int .i64 q], .int .i64 0]) (by simp only [results, Tryd.results9]; go_simp) rfl ⟨rfl, (by repeat' (first | (with_reducible exact Below.refl _ _) | (with_reducible assumption) | (with_reducible refine below_drewN ?_ _) | (with_reducible refine Below.drew ?_) | (with_reducible refine Below.alloc ?_ ?_ _) | (with_reducible refine Below.setCell ?_ ?_ _) | (with_reducible refine Below.trans ?_ (Below.mono (by with_reducible assumption) ?_)) | go_size | (dsimp only; omega)))⟩
set_option maxRecDepth 100000 in
set_option maxHeartbeats 4000000 in
theorem sFractionOfPath_c (s : ByteArray) (w : World) (hs : s.size ≤ 1000000000000) :
    Calls Tryd.prog 8 #[.string s] w fun e w' => e = .returned (pathV s) ∧ Below w.heap.size w w' := by
  by_cases h40 : s.size ≤ 40
  case neg =>
    have e0 : 40 < (s.size : Int) := by omega
    rw [pathV_no (fun h => h40 h.1)]
    go_enter Tryd.func8, Tryd.ntmps8
    go_wp2
    exact bodyPost_ret (v := .tuple #[.agg #[.int .i64 0, .int .i64 0], .int .i64 2]) (by simp only [results, Tryd.results8]; go_simp) rfl ⟨rfl, (by repeat' (first | (with_reducible exact Below.refl _ _) | (with_reducible assumption) | (with_reducible refine below_drewN ?_ _) | (with_reducible refine Below.drew ?_) | (with_reducible refine Below.alloc ?_ ?_ _) | (with_reducible refine Below.setCell ?_ ?_ _) | (with_reducible refine Below.trans ?_ (Below.mono (by with_reducible assumption) ?_)) | go_size | (dsimp only; omega)))⟩
  case pos =>
    have e0 : ¬ (40 < (s.size : Int)) := by omega
    obtain ⟨x0, x1, x2, hx⟩ := pathV_form s
    rw [hx]
    have HX := Lib.hid hx
    clear hx
    go_enter Tryd.func8, Tryd.ntmps8
    go_wp2
    go_loopw [4] (fun i wr => ∃ k : Nat, k ≤ s.size ∧ i = .int .i64 k ∧ Hid ((s.data.toList.drop k).all isLR = s.data.toList.all isLR) ∧ wr.cell? ⟨w.heap.size, 0, none⟩ = some (.int .i64 0) ∧ wr.cell? ⟨w.heap.size, 1, none⟩ = some (.int .i64 0) ∧ (∀ i, wr.frozen? ⟨w.heap.size, i, none⟩ = false) ∧ Below w.heap.size w wr ∧ w.heap.size < wr.heap.size) (fun i wr => s.size - (intOf i).toNat)
    case atStart => exact ⟨0, Nat.zero_le _, rfl, Lib.hid (by simp), by go_cell, by go_cell, (by intro i; first | (simp; done) | (go_simp; done)), (by repeat' (first | (with_reducible exact Below.refl _ _) | (with_reducible assumption) | (with_reducible refine below_drewN ?_ _) | (with_reducible refine Below.drew ?_) | (with_reducible refine Below.alloc ?_ ?_ _) | (with_reducible refine Below.setCell ?_ ?_ _) | (with_reducible refine Below.trans ?_ (Below.mono (by with_reducible assumption) ?_)) | go_size | (dsimp only; omega))), by simp⟩
    case round =>
      obtain ⟨k, hk, rfl, HA, d0, d1, fw, hB, hw⟩ := hrel
      by_cases hlt : k < s.size
      · have hki : (k : Int) < (s.size : Int) := by omega
        have hlen : k < s.data.toList.length := by simpa using hlt
        have hel : s.data.toList[k] = s[k] := rfl
        have hdr : (s.data.toList.drop k).all isLR = (isLR s[k] && (s.data.toList.drop (k + 1)).all isLR) := by rw [List.drop_eq_getElem_cons hlen, hel]; rfl
        have HDR := Lib.hid (HA.out.symm.trans hdr)
        clear hdr hel
        by_cases h76 : s[k] = 76
        · have hb1 : ((s[k].toNat : Int) == 76) = true := by rw [h76]; rfl
          have HA2 : Hid ((s.data.toList.drop (k + 1)).all isLR = s.data.toList.all isLR) := by
            have h0 := HDR.out
            rw [h76, show isLR 76 = true from rfl, Bool.true_and] at h0
            exact Lib.hid h0.symm
          clear HDR HA
          go_wp2
          go_roundw
          case rel => exact ⟨k + 1, by omega, by go_num, HA2, by go_simp, by go_simp, (by intro i; go_simp), (by repeat' (first | (with_reducible exact Below.refl _ _) | (with_reducible assumption) | (with_reducible refine below_drewN ?_ _) | (with_reducible refine Below.drew ?_) | (with_reducible refine Below.alloc ?_ ?_ _) | (with_reducible refine Below.setCell ?_ ?_ _) | (with_reducible refine Below.trans ?_ (Below.mono (by with_reducible assumption) ?_)) | go_size | (dsimp only; omega))), by go_size⟩
          case measure => simp [intOf]; omega
        · have hb1 := byte_ne h76
          have hp1 : ¬ ((s[k].toNat : Int) = 76) := by simpa using hb1
          by_cases h82 : s[k] = 82
          · have hb2 : ((s[k].toNat : Int) == 82) = true := by rw [h82]; rfl
            have HA2 : Hid ((s.data.toList.drop (k + 1)).all isLR = s.data.toList.all isLR) := by
              have h0 := HDR.out
              rw [h82, show isLR 82 = true from rfl, Bool.true_and] at h0
              exact Lib.hid h0.symm
            clear HDR HA
            go_wp2
            go_roundw
            case rel => exact ⟨k + 1, by omega, by go_num, HA2, by go_simp, by go_simp, (by intro i; go_simp), (by repeat' (first | (with_reducible exact Below.refl _ _) | (with_reducible assumption) | (with_reducible refine below_drewN ?_ _) | (with_reducible refine Below.drew ?_) | (with_reducible refine Below.alloc ?_ ?_ _) | (with_reducible refine Below.setCell ?_ ?_ _) | (with_reducible refine Below.trans ?_ (Below.mono (by with_reducible assumption) ?_)) | go_size | (dsimp only; omega))), by go_size⟩
            case measure => simp [intOf]; omega
          · have hb2 := byte_ne2 h82
            have hp2 : ¬ ((s[k].toNat : Int) = 82) := by simpa using hb2
            have hno : s.data.toList.all isLR = false := by
              rw [HDR.out]
              have : isLR s[k] = false := by
                cases h : isLR s[k]
                · rfl
                · rcases isLR_of.mp h with h | h
                  · exact absurd h h76
                  · exact absurd h h82
              rw [this]; rfl
            have HNO := Lib.hid (HX.out.symm.trans (pathV_no (fun h => by rw [hno] at h; simp at h)))
            have hc1 : ((s[k].toNat : Int) != 76) = true := by simpa using hp1
            have hc2 : ((s[k].toNat : Int) != 82) = true := by simpa using hp2
            clear HDR HA hno
            go_wp2
            exact bodyPost_ret (v := .tuple #[.agg #[.int .i64 0, .int .i64 0], .int .i64 2]) (by simp only [results, Tryd.results8]; go_simp) rfl ⟨congrArg Ending.returned HNO.out.symm, (by repeat' (first | (with_reducible exact Below.refl _ _) | (with_reducible assumption) | (with_reducible refine below_drewN ?_ _) | (with_reducible refine Below.drew ?_) | (with_reducible refine Below.alloc ?_ ?_ _) | (with_reducible refine Below.setCell ?_ ?_ _) | (with_reducible refine Below.trans ?_ (Below.mono (by with_reducible assumption) ?_)) | go_size | (dsimp only; omega)))⟩
      · obtain rfl : k = s.size := by omega
        have hd2 : s.data.toList.drop s.size = [] := List.drop_of_length_le (by simp)
        have hyes : s.data.toList.all isLR = true := by have := HA.out; rw [hd2] at this; exact this.symm
        obtain ⟨p, q, hf⟩ : ∃ p q, fol 0 1 1 0 s.data.toList = (p, q) := ⟨_, _, rfl⟩
        have HNO := Lib.hid (HX.out.symm.trans (pathV_yes h40 hyes hf))
        have HF := Lib.hid hf
        clear hd2 hyes hf HA
        go_wp2_with fail
        refine (l03OfPath_c s p q _ h40 HF.out).mono ?_
        rintro e w3 ⟨rfl, b3⟩
        have zzb3 := b3.size; (try simp at zzb3); have zb3_0 : w.heap.size < w3.heap.size := (by omega); have kcb3_0 : ∀ o, w3.cell? ⟨w.heap.size, o, none⟩ = _ := fun o => b3.cell (p := ⟨w.heap.size, o, none⟩) (by go_size); have kfb3_0 : ∀ o, w3.frozen? ⟨w.heap.size, o, none⟩ = _ := fun o => b3.frozen (p := ⟨w.heap.size, o, none⟩) (by go_size); clear zzb3
        go_wp2
        exact bodyPost_ret (v := .tuple #[.agg #[.int .i64 p, .int .i64 q], .int .i64 0]) (by simp only [results, Tryd.results8]; go_simp) rfl ⟨congrArg Ending.returned HNO.out.symm, (by repeat' (first | (with_reducible exact Below.refl _ _) | (with_reducible assumption) | (with_reducible refine below_drewN ?_ _) | (with_reducible refine Below.drew ?_) | (with_reducible refine Below.alloc ?_ ?_ _) | (with_reducible refine Below.setCell ?_ ?_ _) | (with_reducible refine Below.trans ?_ (Below.mono (by with_reducible assumption) ?_)) | go_size | (dsimp only; omega)))⟩
set_option maxHeartbeats 2000000 in
theorem FnExactFractionOfPath_w (s0 : ByteArray) (h0 : s0.size ≤ 140737488351232) (W : World) {X : Prop} (_ : X) :
    Calls Tryd.prog 3 #[.string s0] W fun e w' => e = .returned (.bool true) ∧ Below W.heap.size W w' := by
  by_cases hb : s0.size ≤ 1048576
  · have hn : ¬ (1048576 < (s0.size : Int)) := by omega
    obtain ⟨x0, x1, x4, hx⟩ := pathV_form s0
    have HX := Lib.hid hx
    clear hx
    go_enter Tryd.func3, Tryd.ntmps3
    go_wp2_with fail
    refine (sFractionOfPath_c s0 _ (by omega)).mono ?_
    rintro e wa ⟨rfl, ba⟩
    rw [HX.out]
    have za := ba.size
    go_wp2_with fail
    refine (FractionOfPath_c s0 _ (by omega)).mono ?_
    rintro e wb ⟨rfl, bb⟩
    rw [HX.out]
    have zb : W.heap.size ≤ wb.heap.size := by have := bb.size; simp at this; omega
    have zzbb := bb.size; (try simp at zzbb); have zbb_0 : wa.heap.size < wb.heap.size := (by omega); have kcbb_0 : ∀ o, wb.cell? ⟨wa.heap.size, o, none⟩ = _ := fun o => bb.cell (p := ⟨wa.heap.size, o, none⟩) (by go_size); have kfbb_0 : ∀ o, wb.frozen? ⟨wa.heap.size, o, none⟩ = _ := fun o => bb.frozen (p := ⟨wa.heap.size, o, none⟩) (by go_size); clear zzbb
    go_wp2_with fail
    refine (eqFraction_same _ _ _).mono ?_
    rintro e w5 ⟨rfl, b5⟩
    have zzb5 := b5.size; (try simp at zzb5); clear zzb5
    go_wp2
    go_returns
    exact ⟨rfl, Below.trans (Below.trans (Below.alloc ba za _) (Below.mono bb (by simp; omega))) (Below.trans (Below.alloc (Below.refl _ _) zb _) (Below.mono b5 (by simp; omega)))⟩
  · have hn : 1048576 < (s0.size : Int) := by omega
    go_enter Tryd.func3, Tryd.ntmps3
    go_wp2
    go_returns
    exact ⟨rfl, Below.refl _ _⟩
end Go.Proofs.YtagjgpbcpjcceaaDoor
