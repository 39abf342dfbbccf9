/- MatrixOfFree. -/
import Derived.Test.YtmopjfjmmdnapaaAQ
import Derived.IntWalk
namespace Go.Proofs.Ytmopjfjmmdnapaa
open Go.RowKit
set_option linter.unusedVariables false
set_option linter.unusedSimpArgs false
def isV (b : UInt8) : Bool := decide (b = 83 ∨ b = 85 ∨ b = 86)
theorem isV_iff {b : UInt8} : isV b = true ↔ (b = 83 ∨ b = 85 ∨ b = 86) := by simp [isV]
theorem index_V (b : UInt8) : decide (0 ≤ Lib.indexByte [83, 85, 86] b) = isV b := by
  have h : ∀ x y : UInt8, (x == y) = decide (y = x) := by
    intro x y
    by_cases e : x = y
    · subst e; simp
    · simp [e, Ne.symm e]
  simp only [Lib.indexByte, h, isV]
  by_cases h1 : b = 83 <;> by_cases h2 : b = 85 <;> by_cases h3 : b = 86 <;> simp [h1, h2, h3]
theorem okW_V (l : List UInt8) : okW [83, 85, 86] l = l.all isV := by
  unfold okW
  congr 1
  funext c
  exact index_V c
theorem isV_isL {b : UInt8} (h : isV b = true) : isL b := by
  rcases isV_iff.mp h with h | h | h <;> simp [isL, h]
/-- a letter is S -/
def isS (b : UInt8) : Bool := ((b.toNat : Int) == 83)
/-- a free word -/
structure Free (s : ByteArray) : Prop where
  len : s.size ≤ 200
  all : s.data.toList.all isV = true
  alt : ∀ i, (h : i + 1 < s.size) → isS s[i] ≠ isS s[i + 1]
theorem isFree_yes (s : ByteArray) (w : World) (h : Free s) :
    Calls Try.prog 74 #[.string s] w fun e w' => e = .returned (.bool true) ∧ ∃ m, w' = w.drewN m := by
  have hsz := h.len
  have HO := Lib.hid (okW_V s.data.toList)
  have H := Lib.hid h
  clear h
  go_enter Try.func74, Try.ntmps74
  go_wp2
  go_loopw [3] (fun i wr => ∃ k : Nat, i = .int .i64 ((k : Int) + 1) ∧ (k ≤ s.size) ∧ Hid (∃ m, wr = w.drewN m)) (fun i wr => s.size + 1 - (intOf i).toNat)
  case atStart => exact ⟨0, rfl, Nat.zero_le _, Lib.hid ⟨0, rfl⟩⟩
  case round =>
    obtain ⟨k, rfl, hk, HW⟩ := hrel
    by_cases hlt : k + 1 < s.size
    · have hd := H.out.alt k hlt
      have hlt2 : (k : Int) + 1 < (s.size : Int) := by omega
      cases c1 : isS s[k] <;> cases c2 : isS s[k + 1]
      · rw [c1, c2] at hd; exact absurd rfl hd
      · clear hd
        have e1 : ((s[k].toNat : Int) == 83) = false := c1
        have e2 : ((s[k + 1].toNat : Int) == 83) = true := c2
        clear c1 c2
        have q1 : IntKind.i64.wrap ((k : Int) + 1 - 1) = k := by rw [show (k : Int) + 1 - 1 = k by omega]; exact IntWalk.i64_in _ (by omega)
        have q2 : (0 : Int) ≤ (k : Int) + 1 := by omega
        have q3 : ((k : Int) + 1).toNat = k + 1 := by omega
        have q4 : (k : Int) < (s.size : Int) := by omega
        have q5 : k < s.size := by omega
        go_wp2
        go_quiet (fail)
        clear q1
        go_wp2
        go_roundw
        case rel => exact ⟨k + 1, by go_num, by omega, by obtain ⟨m, rfl⟩ := HW.out; exact Lib.hid ⟨m + nq, by rw [World.drewN_drewN]⟩⟩
        case measure => simp [intOf]; omega
      · clear hd
        have e1 : ((s[k].toNat : Int) == 83) = true := c1
        have e2 : ((s[k + 1].toNat : Int) == 83) = false := c2
        clear c1 c2
        have q1 : IntKind.i64.wrap ((k : Int) + 1 - 1) = k := by rw [show (k : Int) + 1 - 1 = k by omega]; exact IntWalk.i64_in _ (by omega)
        have q2 : (0 : Int) ≤ (k : Int) + 1 := by omega
        have q3 : ((k : Int) + 1).toNat = k + 1 := by omega
        have q4 : (k : Int) < (s.size : Int) := by omega
        have q5 : k < s.size := by omega
        go_wp2
        go_quiet (fail)
        clear q1
        go_wp2
        go_roundw
        case rel => exact ⟨k + 1, by go_num, by omega, by obtain ⟨m, rfl⟩ := HW.out; exact Lib.hid ⟨m + nq, by rw [World.drewN_drewN]⟩⟩
        case measure => simp [intOf]; omega
      · rw [c1, c2] at hd; exact absurd rfl hd
    · have hlt2 : ¬ ((k : Int) + 1 < (s.size : Int)) := by omega
      go_wp2_with fail
      refine (isWord_c s _ _ (by omega)).mono ?_
      rintro e w' ⟨rfl, rfl⟩
      rw [show (okW _ s.data.toList && decide (s.size ≤ 200)) = true from by rw [show okW _ s.data.toList = s.data.toList.all isV from HO.out, H.out.all]; simpa using hsz]
      go_wp2
      go_ret
      exact ⟨rfl, HW.out⟩
theorem isFree_no (s : ByteArray) (w : World) (hs : s.size ≤ 1000000000000) (h : ¬ Free s) :
    Calls Try.prog 74 #[.string s] w fun e w' => e = .returned (.bool false) ∧ ∃ m, w' = w.drewN m := by
  have HO := Lib.hid (okW_V s.data.toList)
  have H := Lib.hid h
  clear h
  go_enter Try.func74, Try.ntmps74
  go_wp2
  go_loopw [3] (fun i wr => ∃ k : Nat, i = .int .i64 ((k : Int) + 1) ∧ (k ≤ s.size) ∧ Hid (∃ m, wr = w.drewN m) ∧ Hid (∀ i, (h : i + 1 < s.size) → i < k → isS s[i] ≠ isS s[i + 1])) (fun i wr => s.size + 1 - (intOf i).toNat)
  case atStart => exact ⟨0, rfl, Nat.zero_le _, Lib.hid ⟨0, rfl⟩, Lib.hid (fun i _ h => by omega)⟩
  case round =>
    obtain ⟨k, rfl, hk, HW, HD⟩ := hrel
    by_cases hlt : k + 1 < s.size
    · have hlt2 : (k : Int) + 1 < (s.size : Int) := by omega
      cases c1 : isS s[k] <;> cases c2 : isS s[k + 1]
      · have e1 : ((s[k].toNat : Int) == 83) = false := c1
        have e2 : ((s[k + 1].toNat : Int) == 83) = false := c2
        clear c1 c2
        have q1 : IntKind.i64.wrap ((k : Int) + 1 - 1) = k := by rw [show (k : Int) + 1 - 1 = k by omega]; exact IntWalk.i64_in _ (by omega)
        have q2 : (0 : Int) ≤ (k : Int) + 1 := by omega
        have q3 : ((k : Int) + 1).toNat = k + 1 := by omega
        have q4 : (k : Int) < (s.size : Int) := by omega
        have q5 : k < s.size := by omega
        go_wp2
        go_quiet (fail)
        clear q1
        go_wp2
        go_ret
        exact ⟨rfl, by obtain ⟨m, rfl⟩ := HW.out; exact ⟨m + nq, by rw [World.drewN_drewN]⟩⟩
      · have hd' : ∀ i, (h : i + 1 < s.size) → i < k + 1 → isS s[i] ≠ isS s[i + 1] := by
          intro i h hi
          by_cases e : i = k
          · subst e; rw [c1, c2]; simp
          · exact HD.out i h (by omega)
        have HD' := Lib.hid hd'
        clear hd'
        have e1 : ((s[k].toNat : Int) == 83) = false := c1
        have e2 : ((s[k + 1].toNat : Int) == 83) = true := c2
        clear c1 c2
        have q1 : IntKind.i64.wrap ((k : Int) + 1 - 1) = k := by rw [show (k : Int) + 1 - 1 = k by omega]; exact IntWalk.i64_in _ (by omega)
        have q2 : (0 : Int) ≤ (k : Int) + 1 := by omega
        have q3 : ((k : Int) + 1).toNat = k + 1 := by omega
        have q4 : (k : Int) < (s.size : Int) := by omega
        have q5 : k < s.size := by omega
        go_wp2
        go_quiet (fail)
        clear q1
        go_wp2
        go_roundw
        case rel => exact ⟨k + 1, by go_num, by omega, by obtain ⟨m, rfl⟩ := HW.out; exact Lib.hid ⟨m + nq, by rw [World.drewN_drewN]⟩, HD'⟩
        case measure => simp [intOf]; omega
      · have hd' : ∀ i, (h : i + 1 < s.size) → i < k + 1 → isS s[i] ≠ isS s[i + 1] := by
          intro i h hi
          by_cases e : i = k
          · subst e; rw [c1, c2]; simp
          · exact HD.out i h (by omega)
        have HD' := Lib.hid hd'
        clear hd'
        have e1 : ((s[k].toNat : Int) == 83) = true := c1
        have e2 : ((s[k + 1].toNat : Int) == 83) = false := c2
        clear c1 c2
        have q1 : IntKind.i64.wrap ((k : Int) + 1 - 1) = k := by rw [show (k : Int) + 1 - 1 = k by omega]; exact IntWalk.i64_in _ (by omega)
        have q2 : (0 : Int) ≤ (k : Int) + 1 := by omega
        have q3 : ((k : Int) + 1).toNat = k + 1 := by omega
        have q4 : (k : Int) < (s.size : Int) := by omega
        have q5 : k < s.size := by omega
        go_wp2
        go_quiet (fail)
        clear q1
        go_wp2
        go_roundw
        case rel => exact ⟨k + 1, by go_num, by omega, by obtain ⟨m, rfl⟩ := HW.out; exact Lib.hid ⟨m + nq, by rw [World.drewN_drewN]⟩, HD'⟩
        case measure => simp [intOf]; omega
      · have e1 : ((s[k].toNat : Int) == 83) = true := c1
        have e2 : ((s[k + 1].toNat : Int) == 83) = true := c2
        clear c1 c2
        have q1 : IntKind.i64.wrap ((k : Int) + 1 - 1) = k := by rw [show (k : Int) + 1 - 1 = k by omega]; exact IntWalk.i64_in _ (by omega)
        have q2 : (0 : Int) ≤ (k : Int) + 1 := by omega
        have q3 : ((k : Int) + 1).toNat = k + 1 := by omega
        have q4 : (k : Int) < (s.size : Int) := by omega
        have q5 : k < s.size := by omega
        go_wp2
        go_quiet (fail)
        clear q1
        go_wp2
        go_ret
        exact ⟨rfl, by obtain ⟨m, rfl⟩ := HW.out; exact ⟨m + nq, by rw [World.drewN_drewN]⟩⟩
    · have hlt2 : ¬ ((k : Int) + 1 < (s.size : Int)) := by omega
      go_wp2_with fail
      refine (isWord_c s _ _ (by omega)).mono ?_
      rintro e w' ⟨rfl, rfl⟩
      rw [show (okW _ s.data.toList && decide (s.size ≤ 200)) = false from by
        rw [show okW _ s.data.toList = s.data.toList.all isV from HO.out]
        cases ha : s.data.toList.all isV
        · rfl
        · simp only [Bool.true_and, decide_eq_false_iff_not]
          exact fun hl => H.out ⟨hl, ha, fun i hi => HD.out i hi (by omega)⟩]
      go_wp2
      go_ret
      exact ⟨rfl, HW.out⟩
theorem MatrixOfFree_no (s : ByteArray) (w : World) (hs : s.size ≤ 1000000000000) (h : ¬ Free s) :
    Calls Try.prog 38 #[.string s] w fun e w' => e = .returned (.tuple #[.agg #[.int .i64 0, .int .i64 0, .int .i64 0, .int .i64 0], .int .i64 2]) ∧ Below w.heap.size w w' := by
  have H := Lib.hid h
  clear h
  go_enter Try.func38, Try.ntmps38
  go_wp2_with fail
  refine (isFree_no s _ hs H.out).mono ?_
  rintro e w' ⟨rfl, m, rfl⟩
  go_wp2
  exact bodyPost_ret (v := .tuple #[.agg #[.int .i64 0, .int .i64 0, .int .i64 0, .int .i64 0], .int .i64 2]) (by simp only [results, Try.results38]; go_simp) rfl ⟨rfl, (by repeat' (first | (with_reducible exact Below.refl _ _) | (with_reducible assumption) | (with_reducible refine below_drewN ?_ _) | (with_reducible refine Below.drew ?_) | (with_reducible refine Below.alloc ?_ ?_ _) | (with_reducible refine Below.setCell ?_ ?_ _) | (with_reducible refine Below.trans ?_ (Below.mono (by with_reducible assumption) ?_)) | go_size | (dsimp only; omega)))⟩
theorem MatrixOfFree_yes (s : ByteArray) (w : World) (h : Free s) :
    Calls Try.prog 38 #[.string s] w fun e w' => e = .returned (prodV (prodL M4.I (s.data.toList.map letM))) ∧ Below w.heap.size w w' := by
  obtain ⟨x0, x1, x2, x3, x4, hx⟩ := prodV_form (prodL M4.I (s.data.toList.map letM))
  rw [hx]
  have hl : ∀ b ∈ s.data.toList, isL b := fun b hb => isV_isL (List.all_eq_true.mp h.all b hb)
  have hsz := h.len
  have HX := Lib.hid hx
  have HL := Lib.hid hl
  have H := Lib.hid h
  clear h hl hx
  go_enter Try.func38, Try.ntmps38
  go_wp2_with fail
  refine (isFree_yes s _ H.out).mono ?_
  rintro e w' ⟨rfl, m, rfl⟩
  go_wp2_with fail
  refine (ofWord_c s _ hsz HL.out).mono ?_
  rintro e w2 ⟨rfl, b2⟩
  rw [HX.out]
  have zzb2 := b2.size; (try simp at zzb2); have zb2_0 : w.heap.size < w2.heap.size := (by omega); have kcb2_0 : ∀ o, w2.cell? ⟨w.heap.size, o, none⟩ = _ := fun o => b2.cell (p := ⟨w.heap.size, o, none⟩) (by go_size); have kfb2_0 : ∀ o, w2.frozen? ⟨w.heap.size, o, none⟩ = _ := fun o => b2.frozen (p := ⟨w.heap.size, o, none⟩) (by go_size); clear zzb2
  go_wp2
  exact bodyPost_ret (v := .tuple #[.agg #[.int .i64 x0, .int .i64 x1, .int .i64 x2, .int .i64 x3], .int .i64 x4]) (by simp only [results, Try.results38]; go_simp) rfl ⟨rfl, (by repeat' (first | (with_reducible exact Below.refl _ _) | (with_reducible assumption) | (with_reducible refine below_drewN ?_ _) | (with_reducible refine Below.drew ?_) | (with_reducible refine Below.alloc ?_ ?_ _) | (with_reducible refine Below.setCell ?_ ?_ _) | (with_reducible refine Below.trans ?_ (Below.mono (by with_reducible assumption) ?_)) | go_size | (dsimp only; omega)))⟩
theorem eqb {b : UInt8} {x : UInt8} {n : Int} (hn : (x.toNat : Int) = n) (h : b = x) : ((b.toNat : Int) == n) = true ∧ ((b.toNat : Int) != n) = false := by subst h; subst hn; simp
theorem neb {b : UInt8} {x : UInt8} {n : Int} (hn : (x.toNat : Int) = n) (h : b ≠ x) : ((b.toNat : Int) == n) = false ∧ ((b.toNat : Int) != n) = true := by
  have : b.toNat ≠ x.toNat := fun e => h (UInt8.toNat_inj.mp e)
  subst hn
  simp; omega
/-- a letter stands well in a free word -/
def okAt (s : ByteArray) (i : Nat) : Prop := ∃ h : i < s.size, isV s[i] = true ∧ (∀ j, (e : i = j + 1) → isS (s[j]'(by omega)) ≠ isS s[i])
theorem free_of {s : ByteArray} (hl : s.size ≤ 200) (h : ∀ i, i < s.size → okAt s i) : Free s := by
  refine ⟨hl, ?_, ?_⟩
  · rw [List.all_eq_true]
    intro b hb
    obtain ⟨i, hi, rfl⟩ := List.mem_iff_getElem.mp hb
    obtain ⟨h1, h2, _⟩ := h i (by simpa using hi)
    exact h2
  · intro i hi
    obtain ⟨h1, _, h3⟩ := h (i + 1) hi
    exact h3 i rfl
theorem of_free {s : ByteArray} (h : Free s) (i : Nat) (hi : i < s.size) : okAt s i := by
  refine ⟨hi, List.all_eq_true.mp h.all _ (List.getElem_mem (by simpa using hi)), ?_⟩
  rintro j rfl
  exact h.alt j hi
set_option maxRecDepth 100000 in
set_option maxHeartbeats 8000000 in
theorem sMatrixOfFree_no (s : ByteArray) (w : World) (hs : s.size ≤ 1000000000000) (h : ¬ Free s) :
    Calls Try.prog 37 #[.string s] w fun e w' => e = .returned (.tuple #[.agg #[.int .i64 0, .int .i64 0, .int .i64 0, .int .i64 0], .int .i64 2]) ∧ Below w.heap.size w w' := by
  by_cases hsz : s.size ≤ 200
  · have hsn : ¬ (200 < (s.size : Int)) := by omega
    have H := Lib.hid h
    clear h
    go_enter Try.func37, Try.ntmps37
    go_wp2
    go_loopw [4] (fun i wr => ∃ k : Nat, k ≤ s.size ∧ i = .int .i64 k ∧ Hid (∀ i, i < k → okAt s i) ∧ wr.cell? ⟨w.heap.size, 0, none⟩ = some (.int .i64 0) ∧ wr.cell? ⟨w.heap.size, 1, none⟩ = some (.int .i64 0) ∧ wr.cell? ⟨w.heap.size, 2, none⟩ = some (.int .i64 0) ∧ wr.cell? ⟨w.heap.size, 3, none⟩ = some (.int .i64 0) ∧ (∀ i, wr.frozen? ⟨w.heap.size, i, none⟩ = false) ∧ Below w.heap.size w wr ∧ w.heap.size < wr.heap.size) (fun i wr => s.size - (intOf i).toNat)
    case atStart => exact ⟨0, Nat.zero_le _, rfl, Lib.hid (fun i h => by omega), by go_cell, by go_cell, by go_cell, by go_cell, (by intro i; first | (simp; done) | (go_simp; done)), (by repeat' (first | (with_reducible exact Below.refl _ _) | (with_reducible assumption) | (with_reducible refine below_drewN ?_ _) | (with_reducible refine Below.drew ?_) | (with_reducible refine Below.alloc ?_ ?_ _) | (with_reducible refine Below.setCell ?_ ?_ _) | (with_reducible refine Below.trans ?_ (Below.mono (by with_reducible assumption) ?_)) | go_size | (dsimp only; omega))), by simp⟩
    case round =>
      obtain ⟨k, hk, rfl, HG, d0, d1, d2, d3, fw, hB, hw⟩ := hrel
      by_cases hlt : k < s.size
      · have hlt2 : (k : Int) < (s.size : Int) := by omega
        by_cases hv : isV s[k] = true
        · cases k with
          | zero =>
            have hok : okAt s 0 := ⟨hlt, hv, fun j e => by omega⟩
            have HOK := Lib.hid hok
            clear hok
            have hg' : ∀ i, i < 0 + 1 → okAt s i := by
              intro i hi
              by_cases e : i = 0
              · subst e; exact HOK.out
              · exact HG.out i (by omega)
            have HG' := Lib.hid hg'
            clear hg'
            have hv2 := isV_iff.mp hv
            clear hv
            have hlt3 : (0 : Int) < (s.size : Int) := by omega
            rcases hv2 with hv2 | hv2 | hv2
            · obtain ⟨f83, g83⟩ := eqb (b := s[0]) (x := 83) (n := 83) rfl hv2
              obtain ⟨f85, g85⟩ := neb (b := s[0]) (x := 85) (n := 85) rfl (by rw [hv2]; decide)
              obtain ⟨f86, g86⟩ := neb (b := s[0]) (x := 86) (n := 86) rfl (by rw [hv2]; decide)
              clear hv2
              go_wp2
              go_quiet (fail)
              go_wp2
              go_roundw
              case rel => exact ⟨1, by omega, by go_num, HG', by go_simp, by go_simp, by go_simp, by go_simp, (by intro i; go_simp), (by repeat' (first | (with_reducible exact Below.refl _ _) | (with_reducible assumption) | (with_reducible refine below_drewN ?_ _) | (with_reducible refine Below.drew ?_) | (with_reducible refine Below.alloc ?_ ?_ _) | (with_reducible refine Below.setCell ?_ ?_ _) | (with_reducible refine Below.trans ?_ (Below.mono (by with_reducible assumption) ?_)) | go_size | (dsimp only; omega))), by go_size⟩
              case measure => simp [intOf]; omega
            · obtain ⟨f83, g83⟩ := neb (b := s[0]) (x := 83) (n := 83) rfl (by rw [hv2]; decide)
              obtain ⟨f85, g85⟩ := eqb (b := s[0]) (x := 85) (n := 85) rfl hv2
              obtain ⟨f86, g86⟩ := neb (b := s[0]) (x := 86) (n := 86) rfl (by rw [hv2]; decide)
              clear hv2
              go_wp2
              go_quiet (fail)
              go_wp2
              go_roundw
              case rel => exact ⟨1, by omega, by go_num, HG', by go_simp, by go_simp, by go_simp, by go_simp, (by intro i; go_simp), (by repeat' (first | (with_reducible exact Below.refl _ _) | (with_reducible assumption) | (with_reducible refine below_drewN ?_ _) | (with_reducible refine Below.drew ?_) | (with_reducible refine Below.alloc ?_ ?_ _) | (with_reducible refine Below.setCell ?_ ?_ _) | (with_reducible refine Below.trans ?_ (Below.mono (by with_reducible assumption) ?_)) | go_size | (dsimp only; omega))), by go_size⟩
              case measure => simp [intOf]; omega
            · obtain ⟨f83, g83⟩ := neb (b := s[0]) (x := 83) (n := 83) rfl (by rw [hv2]; decide)
              obtain ⟨f85, g85⟩ := neb (b := s[0]) (x := 85) (n := 85) rfl (by rw [hv2]; decide)
              obtain ⟨f86, g86⟩ := eqb (b := s[0]) (x := 86) (n := 86) rfl hv2
              clear hv2
              go_wp2
              go_quiet (fail)
              go_wp2
              go_roundw
              case rel => exact ⟨1, by omega, by go_num, HG', by go_simp, by go_simp, by go_simp, by go_simp, (by intro i; go_simp), (by repeat' (first | (with_reducible exact Below.refl _ _) | (with_reducible assumption) | (with_reducible refine below_drewN ?_ _) | (with_reducible refine Below.drew ?_) | (with_reducible refine Below.alloc ?_ ?_ _) | (with_reducible refine Below.setCell ?_ ?_ _) | (with_reducible refine Below.trans ?_ (Below.mono (by with_reducible assumption) ?_)) | go_size | (dsimp only; omega))), by go_size⟩
              case measure => simp [intOf]; omega
          | succ k =>
            have q1 : IntKind.i64.wrap ((k : Int) + 1 - 1) = k := by rw [show (k : Int) + 1 - 1 = k by omega]; exact IntWalk.i64_in _ (by omega)
            have q2 : (0 : Int) ≤ (k : Int) + 1 := by omega
            have q3 : ((k : Int) + 1).toNat = k + 1 := by omega
            have q4 : (k : Int) < (s.size : Int) := by omega
            have q5 : k < s.size := by omega
            have q6 : (k : Int) + 1 < (s.size : Int) := by omega
            have q7 : (0 : Int) < (k : Int) + 1 := by omega
            have q8 : decide ((0 : Int) < (k : Int) + 1) = true := decide_eq_true q7
            have hv2 := isV_iff.mp hv
            cases c1 : isS s[k]
            · have e1 : ((s[k].toNat : Int) == 83) = false := c1
              rcases hv2 with hv2 | hv2 | hv2
              · obtain ⟨f83, g83⟩ := eqb (b := s[k + 1]) (x := 83) (n := 83) rfl hv2
                obtain ⟨f85, g85⟩ := neb (b := s[k + 1]) (x := 85) (n := 85) rfl (by rw [hv2]; decide)
                obtain ⟨f86, g86⟩ := neb (b := s[k + 1]) (x := 86) (n := 86) rfl (by rw [hv2]; decide)
                have hok : okAt s (k + 1) := ⟨hlt, hv, fun j e => by obtain rfl : k = j := (by omega); rw [c1]; simp [isS, hv2]⟩
                have HOK := Lib.hid hok
                clear hok
                have hg' : ∀ i, i < (k + 1) + 1 → okAt s i := by
                  intro i hi
                  by_cases e : i = (k + 1)
                  · subst e; exact HOK.out
                  · exact HG.out i (by omega)
                have HG' := Lib.hid hg'
                clear hg'
                clear hv hv2 c1
                go_wp2
                go_quiet (fail)
                go_wp2
                go_roundw
                case rel => exact ⟨k + 1 + 1, by omega, by go_num, HG', by go_simp, by go_simp, by go_simp, by go_simp, (by intro i; go_simp), (by repeat' (first | (with_reducible exact Below.refl _ _) | (with_reducible assumption) | (with_reducible refine below_drewN ?_ _) | (with_reducible refine Below.drew ?_) | (with_reducible refine Below.alloc ?_ ?_ _) | (with_reducible refine Below.setCell ?_ ?_ _) | (with_reducible refine Below.trans ?_ (Below.mono (by with_reducible assumption) ?_)) | go_size | (dsimp only; omega))), by go_size⟩
                case measure => simp [intOf]; omega
              · obtain ⟨f83, g83⟩ := neb (b := s[k + 1]) (x := 83) (n := 83) rfl (by rw [hv2]; decide)
                obtain ⟨f85, g85⟩ := eqb (b := s[k + 1]) (x := 85) (n := 85) rfl hv2
                obtain ⟨f86, g86⟩ := neb (b := s[k + 1]) (x := 86) (n := 86) rfl (by rw [hv2]; decide)
                clear hv hv2 c1
                go_wp2
                go_quiet (fail)
                go_wp2
                exact bodyPost_ret (v := .tuple #[.agg #[.int .i64 0, .int .i64 0, .int .i64 0, .int .i64 0], .int .i64 2]) (by simp only [results, Try.results37]; go_simp) rfl ⟨rfl, (by repeat' (first | (with_reducible exact Below.refl _ _) | (with_reducible assumption) | (with_reducible refine below_drewN ?_ _) | (with_reducible refine Below.drew ?_) | (with_reducible refine Below.alloc ?_ ?_ _) | (with_reducible refine Below.setCell ?_ ?_ _) | (with_reducible refine Below.trans ?_ (Below.mono (by with_reducible assumption) ?_)) | go_size | (dsimp only; omega)))⟩
              · obtain ⟨f83, g83⟩ := neb (b := s[k + 1]) (x := 83) (n := 83) rfl (by rw [hv2]; decide)
                obtain ⟨f85, g85⟩ := neb (b := s[k + 1]) (x := 85) (n := 85) rfl (by rw [hv2]; decide)
                obtain ⟨f86, g86⟩ := eqb (b := s[k + 1]) (x := 86) (n := 86) rfl hv2
                clear hv hv2 c1
                go_wp2
                go_quiet (fail)
                go_wp2
                exact bodyPost_ret (v := .tuple #[.agg #[.int .i64 0, .int .i64 0, .int .i64 0, .int .i64 0], .int .i64 2]) (by simp only [results, Try.results37]; go_simp) rfl ⟨rfl, (by repeat' (first | (with_reducible exact Below.refl _ _) | (with_reducible assumption) | (with_reducible refine below_drewN ?_ _) | (with_reducible refine Below.drew ?_) | (with_reducible refine Below.alloc ?_ ?_ _) | (with_reducible refine Below.setCell ?_ ?_ _) | (with_reducible refine Below.trans ?_ (Below.mono (by with_reducible assumption) ?_)) | go_size | (dsimp only; omega)))⟩
            · have e1 : ((s[k].toNat : Int) == 83) = true := c1
              rcases hv2 with hv2 | hv2 | hv2
              · obtain ⟨f83, g83⟩ := eqb (b := s[k + 1]) (x := 83) (n := 83) rfl hv2
                obtain ⟨f85, g85⟩ := neb (b := s[k + 1]) (x := 85) (n := 85) rfl (by rw [hv2]; decide)
                obtain ⟨f86, g86⟩ := neb (b := s[k + 1]) (x := 86) (n := 86) rfl (by rw [hv2]; decide)
                clear hv hv2 c1
                go_wp2
                go_quiet (fail)
                go_wp2
                exact bodyPost_ret (v := .tuple #[.agg #[.int .i64 0, .int .i64 0, .int .i64 0, .int .i64 0], .int .i64 2]) (by simp only [results, Try.results37]; go_simp) rfl ⟨rfl, (by repeat' (first | (with_reducible exact Below.refl _ _) | (with_reducible assumption) | (with_reducible refine below_drewN ?_ _) | (with_reducible refine Below.drew ?_) | (with_reducible refine Below.alloc ?_ ?_ _) | (with_reducible refine Below.setCell ?_ ?_ _) | (with_reducible refine Below.trans ?_ (Below.mono (by with_reducible assumption) ?_)) | go_size | (dsimp only; omega)))⟩
              · obtain ⟨f83, g83⟩ := neb (b := s[k + 1]) (x := 83) (n := 83) rfl (by rw [hv2]; decide)
                obtain ⟨f85, g85⟩ := eqb (b := s[k + 1]) (x := 85) (n := 85) rfl hv2
                obtain ⟨f86, g86⟩ := neb (b := s[k + 1]) (x := 86) (n := 86) rfl (by rw [hv2]; decide)
                have hok : okAt s (k + 1) := ⟨hlt, hv, fun j e => by obtain rfl : k = j := (by omega); rw [c1]; simp [isS, hv2]⟩
                have HOK := Lib.hid hok
                clear hok
                have hg' : ∀ i, i < (k + 1) + 1 → okAt s i := by
                  intro i hi
                  by_cases e : i = (k + 1)
                  · subst e; exact HOK.out
                  · exact HG.out i (by omega)
                have HG' := Lib.hid hg'
                clear hg'
                clear hv hv2 c1
                go_wp2
                go_quiet (fail)
                go_wp2
                go_roundw
                case rel => exact ⟨k + 1 + 1, by omega, by go_num, HG', by go_simp, by go_simp, by go_simp, by go_simp, (by intro i; go_simp), (by repeat' (first | (with_reducible exact Below.refl _ _) | (with_reducible assumption) | (with_reducible refine below_drewN ?_ _) | (with_reducible refine Below.drew ?_) | (with_reducible refine Below.alloc ?_ ?_ _) | (with_reducible refine Below.setCell ?_ ?_ _) | (with_reducible refine Below.trans ?_ (Below.mono (by with_reducible assumption) ?_)) | go_size | (dsimp only; omega))), by go_size⟩
                case measure => simp [intOf]; omega
              · obtain ⟨f83, g83⟩ := neb (b := s[k + 1]) (x := 83) (n := 83) rfl (by rw [hv2]; decide)
                obtain ⟨f85, g85⟩ := neb (b := s[k + 1]) (x := 85) (n := 85) rfl (by rw [hv2]; decide)
                obtain ⟨f86, g86⟩ := eqb (b := s[k + 1]) (x := 86) (n := 86) rfl hv2
                have hok : okAt s (k + 1) := ⟨hlt, hv, fun j e => by obtain rfl : k = j := (by omega); rw [c1]; simp [isS, hv2]⟩
                have HOK := Lib.hid hok
                clear hok
                have hg' : ∀ i, i < (k + 1) + 1 → okAt s i := by
                  intro i hi
                  by_cases e : i = (k + 1)
                  · subst e; exact HOK.out
                  · exact HG.out i (by omega)
                have HG' := Lib.hid hg'
                clear hg'
                clear hv hv2 c1
                go_wp2
                go_quiet (fail)
                go_wp2
                go_roundw
                case rel => exact ⟨k + 1 + 1, by omega, by go_num, HG', by go_simp, by go_simp, by go_simp, by go_simp, (by intro i; go_simp), (by repeat' (first | (with_reducible exact Below.refl _ _) | (with_reducible assumption) | (with_reducible refine below_drewN ?_ _) | (with_reducible refine Below.drew ?_) | (with_reducible refine Below.alloc ?_ ?_ _) | (with_reducible refine Below.setCell ?_ ?_ _) | (with_reducible refine Below.trans ?_ (Below.mono (by with_reducible assumption) ?_)) | go_size | (dsimp only; omega))), by go_size⟩
                case measure => simp [intOf]; omega
        · have hv2 : ¬ (s[k] = 83 ∨ s[k] = 85 ∨ s[k] = 86) := fun e => hv (isV_iff.mpr e)
          obtain ⟨f83, g83⟩ := neb (b := s[k]) (x := 83) (n := 83) rfl (fun e => hv2 (by simp [e]))
          obtain ⟨f85, g85⟩ := neb (b := s[k]) (x := 85) (n := 85) rfl (fun e => hv2 (by simp [e]))
          obtain ⟨f86, g86⟩ := neb (b := s[k]) (x := 86) (n := 86) rfl (fun e => hv2 (by simp [e]))
          clear hv hv2
          go_wp2
          go_quiet (fail)
          go_wp2
          exact bodyPost_ret (v := .tuple #[.agg #[.int .i64 0, .int .i64 0, .int .i64 0, .int .i64 0], .int .i64 2]) (by simp only [results, Try.results37]; go_simp) rfl ⟨rfl, (by repeat' (first | (with_reducible exact Below.refl _ _) | (with_reducible assumption) | (with_reducible refine below_drewN ?_ _) | (with_reducible refine Below.drew ?_) | (with_reducible refine Below.alloc ?_ ?_ _) | (with_reducible refine Below.setCell ?_ ?_ _) | (with_reducible refine Below.trans ?_ (Below.mono (by with_reducible assumption) ?_)) | go_size | (dsimp only; omega)))⟩
      · exact absurd (free_of hsz (fun i hi => HG.out i (by omega))) H.out
  · have hsn : 200 < (s.size : Int) := by omega
    clear h
    go_enter Try.func37, Try.ntmps37
    go_wp2
    exact bodyPost_ret (v := .tuple #[.agg #[.int .i64 0, .int .i64 0, .int .i64 0, .int .i64 0], .int .i64 2]) (by simp only [results, Try.results37]; go_simp) rfl ⟨rfl, (by repeat' (first | (with_reducible exact Below.refl _ _) | (with_reducible assumption) | (with_reducible refine below_drewN ?_ _) | (with_reducible refine Below.drew ?_) | (with_reducible refine Below.alloc ?_ ?_ _) | (with_reducible refine Below.setCell ?_ ?_ _) | (with_reducible refine Below.trans ?_ (Below.mono (by with_reducible assumption) ?_)) | go_size | (dsimp only; omega)))⟩
set_option maxRecDepth 100000 in
set_option maxHeartbeats 8000000 in
theorem sMatrixOfFree_yes (s : ByteArray) (w : World) (h : Free s) :
    Calls Try.prog 37 #[.string s] w fun e w' => e = .returned (prodV (prodL M4.I (s.data.toList.map letM))) ∧ Below w.heap.size w w' := by
    have hsz := h.len
    have hsn : ¬ (200 < (s.size : Int)) := by omega
    have H := Lib.hid h
    have HL := Lib.hid (List.all_eq_true.mp h.all)
    clear h
    go_enter Try.func37, Try.ntmps37
    go_wp2
    go_loopw [4] (fun i wr => ∃ k : Nat, k ≤ s.size ∧ i = .int .i64 k ∧ Hid (∀ i, i < k → okAt s i) ∧ wr.cell? ⟨w.heap.size, 0, none⟩ = some (.int .i64 0) ∧ wr.cell? ⟨w.heap.size, 1, none⟩ = some (.int .i64 0) ∧ wr.cell? ⟨w.heap.size, 2, none⟩ = some (.int .i64 0) ∧ wr.cell? ⟨w.heap.size, 3, none⟩ = some (.int .i64 0) ∧ (∀ i, wr.frozen? ⟨w.heap.size, i, none⟩ = false) ∧ Below w.heap.size w wr ∧ w.heap.size < wr.heap.size) (fun i wr => s.size - (intOf i).toNat)
    case atStart => exact ⟨0, Nat.zero_le _, rfl, Lib.hid (fun i h => by omega), by go_cell, by go_cell, by go_cell, by go_cell, (by intro i; first | (simp; done) | (go_simp; done)), (by repeat' (first | (with_reducible exact Below.refl _ _) | (with_reducible assumption) | (with_reducible refine below_drewN ?_ _) | (with_reducible refine Below.drew ?_) | (with_reducible refine Below.alloc ?_ ?_ _) | (with_reducible refine Below.setCell ?_ ?_ _) | (with_reducible refine Below.trans ?_ (Below.mono (by with_reducible assumption) ?_)) | go_size | (dsimp only; omega))), by simp⟩
    case round =>
      obtain ⟨k, hk, rfl, HG, d0, d1, d2, d3, fw, hB, hw⟩ := hrel
      by_cases hlt : k < s.size
      · have hlt2 : (k : Int) < (s.size : Int) := by omega
        by_cases hv : isV s[k] = true
        · cases k with
          | zero =>
            have hok : okAt s 0 := ⟨hlt, hv, fun j e => by omega⟩
            have HOK := Lib.hid hok
            clear hok
            have hg' : ∀ i, i < 0 + 1 → okAt s i := by
              intro i hi
              by_cases e : i = 0
              · subst e; exact HOK.out
              · exact HG.out i (by omega)
            have HG' := Lib.hid hg'
            clear hg'
            have hv2 := isV_iff.mp hv
            clear hv
            have hlt3 : (0 : Int) < (s.size : Int) := by omega
            rcases hv2 with hv2 | hv2 | hv2
            · obtain ⟨f83, g83⟩ := eqb (b := s[0]) (x := 83) (n := 83) rfl hv2
              obtain ⟨f85, g85⟩ := neb (b := s[0]) (x := 85) (n := 85) rfl (by rw [hv2]; decide)
              obtain ⟨f86, g86⟩ := neb (b := s[0]) (x := 86) (n := 86) rfl (by rw [hv2]; decide)
              clear hv2
              go_wp2
              go_quiet (fail)
              go_wp2
              go_roundw
              case rel => exact ⟨1, by omega, by go_num, HG', by go_simp, by go_simp, by go_simp, by go_simp, (by intro i; go_simp), (by repeat' (first | (with_reducible exact Below.refl _ _) | (with_reducible assumption) | (with_reducible refine below_drewN ?_ _) | (with_reducible refine Below.drew ?_) | (with_reducible refine Below.alloc ?_ ?_ _) | (with_reducible refine Below.setCell ?_ ?_ _) | (with_reducible refine Below.trans ?_ (Below.mono (by with_reducible assumption) ?_)) | go_size | (dsimp only; omega))), by go_size⟩
              case measure => simp [intOf]; omega
            · obtain ⟨f83, g83⟩ := neb (b := s[0]) (x := 83) (n := 83) rfl (by rw [hv2]; decide)
              obtain ⟨f85, g85⟩ := eqb (b := s[0]) (x := 85) (n := 85) rfl hv2
              obtain ⟨f86, g86⟩ := neb (b := s[0]) (x := 86) (n := 86) rfl (by rw [hv2]; decide)
              clear hv2
              go_wp2
              go_quiet (fail)
              go_wp2
              go_roundw
              case rel => exact ⟨1, by omega, by go_num, HG', by go_simp, by go_simp, by go_simp, by go_simp, (by intro i; go_simp), (by repeat' (first | (with_reducible exact Below.refl _ _) | (with_reducible assumption) | (with_reducible refine below_drewN ?_ _) | (with_reducible refine Below.drew ?_) | (with_reducible refine Below.alloc ?_ ?_ _) | (with_reducible refine Below.setCell ?_ ?_ _) | (with_reducible refine Below.trans ?_ (Below.mono (by with_reducible assumption) ?_)) | go_size | (dsimp only; omega))), by go_size⟩
              case measure => simp [intOf]; omega
            · obtain ⟨f83, g83⟩ := neb (b := s[0]) (x := 83) (n := 83) rfl (by rw [hv2]; decide)
              obtain ⟨f85, g85⟩ := neb (b := s[0]) (x := 85) (n := 85) rfl (by rw [hv2]; decide)
              obtain ⟨f86, g86⟩ := eqb (b := s[0]) (x := 86) (n := 86) rfl hv2
              clear hv2
              go_wp2
              go_quiet (fail)
              go_wp2
              go_roundw
              case rel => exact ⟨1, by omega, by go_num, HG', by go_simp, by go_simp, by go_simp, by go_simp, (by intro i; go_simp), (by repeat' (first | (with_reducible exact Below.refl _ _) | (with_reducible assumption) | (with_reducible refine below_drewN ?_ _) | (with_reducible refine Below.drew ?_) | (with_reducible refine Below.alloc ?_ ?_ _) | (with_reducible refine Below.setCell ?_ ?_ _) | (with_reducible refine Below.trans ?_ (Below.mono (by with_reducible assumption) ?_)) | go_size | (dsimp only; omega))), by go_size⟩
              case measure => simp [intOf]; omega
          | succ k =>
            have q1 : IntKind.i64.wrap ((k : Int) + 1 - 1) = k := by rw [show (k : Int) + 1 - 1 = k by omega]; exact IntWalk.i64_in _ (by omega)
            have q2 : (0 : Int) ≤ (k : Int) + 1 := by omega
            have q3 : ((k : Int) + 1).toNat = k + 1 := by omega
            have q4 : (k : Int) < (s.size : Int) := by omega
            have q5 : k < s.size := by omega
            have q6 : (k : Int) + 1 < (s.size : Int) := by omega
            have q7 : (0 : Int) < (k : Int) + 1 := by omega
            have q8 : decide ((0 : Int) < (k : Int) + 1) = true := decide_eq_true q7
            have hv2 := isV_iff.mp hv
            cases c1 : isS s[k]
            · have e1 : ((s[k].toNat : Int) == 83) = false := c1
              rcases hv2 with hv2 | hv2 | hv2
              · obtain ⟨f83, g83⟩ := eqb (b := s[k + 1]) (x := 83) (n := 83) rfl hv2
                obtain ⟨f85, g85⟩ := neb (b := s[k + 1]) (x := 85) (n := 85) rfl (by rw [hv2]; decide)
                obtain ⟨f86, g86⟩ := neb (b := s[k + 1]) (x := 86) (n := 86) rfl (by rw [hv2]; decide)
                have hok : okAt s (k + 1) := ⟨hlt, hv, fun j e => by obtain rfl : k = j := (by omega); rw [c1]; simp [isS, hv2]⟩
                have HOK := Lib.hid hok
                clear hok
                have hg' : ∀ i, i < (k + 1) + 1 → okAt s i := by
                  intro i hi
                  by_cases e : i = (k + 1)
                  · subst e; exact HOK.out
                  · exact HG.out i (by omega)
                have HG' := Lib.hid hg'
                clear hg'
                clear hv hv2 c1
                go_wp2
                go_quiet (fail)
                go_wp2
                go_roundw
                case rel => exact ⟨k + 1 + 1, by omega, by go_num, HG', by go_simp, by go_simp, by go_simp, by go_simp, (by intro i; go_simp), (by repeat' (first | (with_reducible exact Below.refl _ _) | (with_reducible assumption) | (with_reducible refine below_drewN ?_ _) | (with_reducible refine Below.drew ?_) | (with_reducible refine Below.alloc ?_ ?_ _) | (with_reducible refine Below.setCell ?_ ?_ _) | (with_reducible refine Below.trans ?_ (Below.mono (by with_reducible assumption) ?_)) | go_size | (dsimp only; omega))), by go_size⟩
                case measure => simp [intOf]; omega
              · obtain ⟨f83, g83⟩ := neb (b := s[k + 1]) (x := 83) (n := 83) rfl (by rw [hv2]; decide)
                obtain ⟨f85, g85⟩ := eqb (b := s[k + 1]) (x := 85) (n := 85) rfl hv2
                obtain ⟨f86, g86⟩ := neb (b := s[k + 1]) (x := 86) (n := 86) rfl (by rw [hv2]; decide)
                exfalso
                obtain ⟨_, _, h3⟩ := of_free H.out (k + 1) hlt
                exact h3 k rfl (by rw [c1]; simp [isS, hv2])
              · obtain ⟨f83, g83⟩ := neb (b := s[k + 1]) (x := 83) (n := 83) rfl (by rw [hv2]; decide)
                obtain ⟨f85, g85⟩ := neb (b := s[k + 1]) (x := 85) (n := 85) rfl (by rw [hv2]; decide)
                obtain ⟨f86, g86⟩ := eqb (b := s[k + 1]) (x := 86) (n := 86) rfl hv2
                exfalso
                obtain ⟨_, _, h3⟩ := of_free H.out (k + 1) hlt
                exact h3 k rfl (by rw [c1]; simp [isS, hv2])
            · have e1 : ((s[k].toNat : Int) == 83) = true := c1
              rcases hv2 with hv2 | hv2 | hv2
              · obtain ⟨f83, g83⟩ := eqb (b := s[k + 1]) (x := 83) (n := 83) rfl hv2
                obtain ⟨f85, g85⟩ := neb (b := s[k + 1]) (x := 85) (n := 85) rfl (by rw [hv2]; decide)
                obtain ⟨f86, g86⟩ := neb (b := s[k + 1]) (x := 86) (n := 86) rfl (by rw [hv2]; decide)
                exfalso
                obtain ⟨_, _, h3⟩ := of_free H.out (k + 1) hlt
                exact h3 k rfl (by rw [c1]; simp [isS, hv2])
              · obtain ⟨f83, g83⟩ := neb (b := s[k + 1]) (x := 83) (n := 83) rfl (by rw [hv2]; decide)
                obtain ⟨f85, g85⟩ := eqb (b := s[k + 1]) (x := 85) (n := 85) rfl hv2
                obtain ⟨f86, g86⟩ := neb (b := s[k + 1]) (x := 86) (n := 86) rfl (by rw [hv2]; decide)
                have hok : okAt s (k + 1) := ⟨hlt, hv, fun j e => by obtain rfl : k = j := (by omega); rw [c1]; simp [isS, hv2]⟩
                have HOK := Lib.hid hok
                clear hok
                have hg' : ∀ i, i < (k + 1) + 1 → okAt s i := by
                  intro i hi
                  by_cases e : i = (k + 1)
                  · subst e; exact HOK.out
                  · exact HG.out i (by omega)
                have HG' := Lib.hid hg'
                clear hg'
                clear hv hv2 c1
                go_wp2
                go_quiet (fail)
                go_wp2
                go_roundw
                case rel => exact ⟨k + 1 + 1, by omega, by go_num, HG', by go_simp, by go_simp, by go_simp, by go_simp, (by intro i; go_simp), (by repeat' (first | (with_reducible exact Below.refl _ _) | (with_reducible assumption) | (with_reducible refine below_drewN ?_ _) | (with_reducible refine Below.drew ?_) | (with_reducible refine Below.alloc ?_ ?_ _) | (with_reducible refine Below.setCell ?_ ?_ _) | (with_reducible refine Below.trans ?_ (Below.mono (by with_reducible assumption) ?_)) | go_size | (dsimp only; omega))), by go_size⟩
                case measure => simp [intOf]; omega
              · obtain ⟨f83, g83⟩ := neb (b := s[k + 1]) (x := 83) (n := 83) rfl (by rw [hv2]; decide)
                obtain ⟨f85, g85⟩ := neb (b := s[k + 1]) (x := 85) (n := 85) rfl (by rw [hv2]; decide)
                obtain ⟨f86, g86⟩ := eqb (b := s[k + 1]) (x := 86) (n := 86) rfl hv2
                have hok : okAt s (k + 1) := ⟨hlt, hv, fun j e => by obtain rfl : k = j := (by omega); rw [c1]; simp [isS, hv2]⟩
                have HOK := Lib.hid hok
                clear hok
                have hg' : ∀ i, i < (k + 1) + 1 → okAt s i := by
                  intro i hi
                  by_cases e : i = (k + 1)
                  · subst e; exact HOK.out
                  · exact HG.out i (by omega)
                have HG' := Lib.hid hg'
                clear hg'
                clear hv hv2 c1
                go_wp2
                go_quiet (fail)
                go_wp2
                go_roundw
                case rel => exact ⟨k + 1 + 1, by omega, by go_num, HG', by go_simp, by go_simp, by go_simp, by go_simp, (by intro i; go_simp), (by repeat' (first | (with_reducible exact Below.refl _ _) | (with_reducible assumption) | (with_reducible refine below_drewN ?_ _) | (with_reducible refine Below.drew ?_) | (with_reducible refine Below.alloc ?_ ?_ _) | (with_reducible refine Below.setCell ?_ ?_ _) | (with_reducible refine Below.trans ?_ (Below.mono (by with_reducible assumption) ?_)) | go_size | (dsimp only; omega))), by go_size⟩
                case measure => simp [intOf]; omega
        · exact absurd (List.all_eq_true.mp H.out.all _ (List.getElem_mem (by simpa using hlt))) hv
      · go_wp2_with fail
        refine (l02Unit_c' _).mono ?_
        rintro e w2 ⟨rfl, b2⟩
        have zzb2 := b2.size; (try simp at zzb2); have zb2_0 : w.heap.size < w2.heap.size := (by omega); have kcb2_0 : ∀ o, w2.cell? ⟨w.heap.size, o, none⟩ = _ := fun o => b2.cell (p := ⟨w.heap.size, o, none⟩) (by go_size); have kfb2_0 : ∀ o, w2.frozen? ⟨w.heap.size, o, none⟩ = _ := fun o => b2.frozen (p := ⟨w.heap.size, o, none⟩) (by go_size); clear zzb2
        have hB2 : Below w.heap.size w w2 := (by repeat' (first | (with_reducible exact Below.refl _ _) | (with_reducible assumption) | (with_reducible refine below_drewN ?_ _) | (with_reducible refine Below.drew ?_) | (with_reducible refine Below.alloc ?_ ?_ _) | (with_reducible refine Below.setCell ?_ ?_ _) | (with_reducible refine Below.trans ?_ (Below.mono (by with_reducible assumption) ?_)) | go_size | (dsimp only; omega)))
        go_wp2
        obtain ⟨wo, rfl⟩ : ∃ wo : World, wo = wr := ⟨_, rfl⟩
        go_loopw [6, 7] (fun f i wr => ∃ (k : Nat) (b : Bool) (p q r t : Int), k ≤ s.size ∧ i = .int .i64 k ∧ f = .bool b ∧ Hid (At b ⟨p, q, r, t⟩ (s.data.toList.map letM) k) ∧
          wr.cell? ⟨w2.heap.size, 0, none⟩ = some (.int .i64 p) ∧ wr.cell? ⟨w2.heap.size, 1, none⟩ = some (.int .i64 q) ∧ wr.cell? ⟨w2.heap.size, 2, none⟩ = some (.int .i64 r) ∧ wr.cell? ⟨w2.heap.size, 3, none⟩ = some (.int .i64 t) ∧ (∀ i, wr.frozen? ⟨w2.heap.size, i, none⟩ = false) ∧
          wr.cell? ⟨w.heap.size, 0, none⟩ = some (.int .i64 0) ∧ wr.cell? ⟨w.heap.size, 1, none⟩ = some (.int .i64 0) ∧ wr.cell? ⟨w.heap.size, 2, none⟩ = some (.int .i64 0) ∧ wr.cell? ⟨w.heap.size, 3, none⟩ = some (.int .i64 0) ∧ (∀ i, wr.frozen? ⟨w.heap.size, i, none⟩ = false) ∧ Below w.heap.size w wr ∧ w.heap.size < wr.heap.size ∧ w2.heap.size < wr.heap.size) (fun f i wr => s.size - (intOf i).toNat)
        case atStart => exact ⟨0, true, 1, 0, 0, 1, Nat.zero_le _, rfl, rfl, Lib.hid (by unfold At; rw [if_pos rfl]; exact ⟨by decide, rfl⟩), by go_cell, by go_cell, by go_cell, by go_cell, (by intro i; first | (simp; done) | (go_simp; done)), by go_simp, by go_simp, by go_simp, by go_simp, (by intro i; go_simp), (by repeat' (first | (with_reducible exact Below.refl _ _) | (with_reducible assumption) | (with_reducible refine below_drewN ?_ _) | (with_reducible refine Below.drew ?_) | (with_reducible refine Below.alloc ?_ ?_ _) | (with_reducible refine Below.setCell ?_ ?_ _) | (with_reducible refine Below.trans ?_ (Below.mono (by with_reducible assumption) ?_)) | go_size | (dsimp only; omega))), by go_size, by go_size⟩
        case round =>
          obtain ⟨j, b, p, q, r, t, hj, rfl, rfl, HA, c0, c1, c2, c3, fg, d0', d1', d2', d3', fw', hB', hw', hg'⟩ := hrel
          clear d0 d1 d2 d3 fw hB hw kcb2_0 kfb2_0 b2 hB2
          have hne : ¬ w.heap.size = w2.heap.size := by omega
          have hne' : ¬ w2.heap.size = w.heap.size := by omega
          cases b
          · have hnone : prodV (prodL M4.I (s.data.toList.map letM)) = .tuple #[.agg #[.int .i64 0, .int .i64 0, .int .i64 0, .int .i64 0], .int .i64 3] := by
              have := HA.out
              simp only [At] at this
              rw [this]; rfl
            have HN := Lib.hid hnone
            clear hnone
            by_cases hlt2 : j < s.size
            · go_wp2
              exact bodyPost_ret (v := .tuple #[.agg #[.int .i64 0, .int .i64 0, .int .i64 0, .int .i64 0], .int .i64 3]) (by simp only [results, Try.results37]; go_simp) rfl ⟨congrArg Ending.returned HN.out.symm, (by repeat' (first | (with_reducible exact Below.refl _ _) | (with_reducible assumption) | (with_reducible refine below_drewN ?_ _) | (with_reducible refine Below.drew ?_) | (with_reducible refine Below.alloc ?_ ?_ _) | (with_reducible refine Below.setCell ?_ ?_ _) | (with_reducible refine Below.trans ?_ (Below.mono (by with_reducible assumption) ?_)) | go_size | (dsimp only; omega)))⟩
            · go_wp2
              exact bodyPost_ret (v := .tuple #[.agg #[.int .i64 0, .int .i64 0, .int .i64 0, .int .i64 0], .int .i64 3]) (by simp only [results, Try.results37]; go_simp) rfl ⟨congrArg Ending.returned HN.out.symm, (by repeat' (first | (with_reducible exact Below.refl _ _) | (with_reducible assumption) | (with_reducible refine below_drewN ?_ _) | (with_reducible refine Below.drew ?_) | (with_reducible refine Below.alloc ?_ ?_ _) | (with_reducible refine Below.setCell ?_ ?_ _) | (with_reducible refine Below.trans ?_ (Below.mono (by with_reducible assumption) ?_)) | go_size | (dsimp only; omega)))⟩
          · by_cases hlt2 : j < s.size
            · have hA := HA.out
              simp only [At] at hA
              have hlt' : j < s.data.toList.length := by simpa using hlt2
              have hlt3 : (j : Int) < (s.size : Int) := by omega
              have hel : s.data.toList[j] = s[j] := rfl
              have hx : (s.data.toList.map letM)[j]? = some (letM s[j]) := by rw [List.getElem?_eq_getElem (by simpa using hlt2)]; simp; rfl
              have hT := HL.out _ (List.getElem_mem hlt')
              rw [hel] at hT
              have hT2 := isV_iff.mp hT
              have HX2 := Lib.hid hx
              have HM := Lib.hid hA.1
              have HP := Lib.hid hA.2
              clear hA hel hx hT
              rcases hT2 with hT2 | hT2 | hT2
              · obtain ⟨f83, g83⟩ := eqb (b := s[j]) (x := 83) (n := 83) rfl hT2
                obtain ⟨f85, g85⟩ := neb (b := s[j]) (x := 85) (n := 85) rfl (by rw [hT2]; decide)
                obtain ⟨f86, g86⟩ := neb (b := s[j]) (x := 86) (n := 86) rfl (by rw [hT2]; decide)
                have hmm : letM s[j] = ⟨0, -1, 1, 0⟩ := by rw [hT2]; rfl
                have hx2 : (s.data.toList.map letM)[j]? = some ⟨0, -1, 1, 0⟩ := by rw [HX2.out, hmm]
                have HX3 := Lib.hid hx2
                clear hT2 hmm hx2
                cases he : M4.ent (M4.mul ⟨p, q, r, t⟩ ⟨0, -1, 1, 0⟩)
                · have hno := prodL_no HX3.out HP.out he
                  have HN := Lib.hid hno
                  have HE2 := Lib.hid he
                  clear hno he
                  go_wp2_with fail
                  refine (l01Times_no ⟨p, q, r, t⟩ ⟨0, -1, 1, 0⟩ _ HM.out (by decide) HE2.out).mono ?_
                  rintro e w4 ⟨rfl, b4⟩
                  have zzb4 := b4.size; (try simp at zzb4); have zb4_w0 : w.heap.size < w4.heap.size := (by omega); have kcb4_w0 : ∀ o, w4.cell? ⟨w.heap.size, o, none⟩ = _ := fun o => b4.cell (p := ⟨w.heap.size, o, none⟩) (by go_size); have kfb4_w0 : ∀ o, w4.frozen? ⟨w.heap.size, o, none⟩ = _ := fun o => b4.frozen (p := ⟨w.heap.size, o, none⟩) (by go_size); have zb4_w20 : w2.heap.size < w4.heap.size := (by omega); have kcb4_w20 : ∀ o, w4.cell? ⟨w2.heap.size, o, none⟩ = _ := fun o => b4.cell (p := ⟨w2.heap.size, o, none⟩) (by go_size); have kfb4_w20 : ∀ o, w4.frozen? ⟨w2.heap.size, o, none⟩ = _ := fun o => b4.frozen (p := ⟨w2.heap.size, o, none⟩) (by go_size); clear zzb4
                  go_wp2
                  go_roundw
                  case rel => exact ⟨j + 1, false, 0, 0, 0, 0, by omega, by go_num, rfl, Lib.hid (by unfold At; rw [if_neg (by simp)]; exact HN.out), by go_simp, by go_simp, by go_simp, by go_simp, (by intro i; go_simp), by go_simp, by go_simp, by go_simp, by go_simp, (by intro i; go_simp), (by repeat' (first | (with_reducible exact Below.refl _ _) | (with_reducible assumption) | (with_reducible refine below_drewN ?_ _) | (with_reducible refine Below.drew ?_) | (with_reducible refine Below.alloc ?_ ?_ _) | (with_reducible refine Below.setCell ?_ ?_ _) | (with_reducible refine Below.trans ?_ (Below.mono (by with_reducible assumption) ?_)) | go_size | (dsimp only; omega))), by go_size, by go_size⟩
                  case measure => simp [intOf]; omega
                · have hgo := prodL_go HX3.out HP.out he
                  have HN := Lib.hid hgo
                  have HE2 := Lib.hid he
                  clear hgo he
                  go_wp2_with fail
                  refine (l01Times_yes ⟨p, q, r, t⟩ ⟨0, -1, 1, 0⟩ _ HM.out (by decide) HE2.out).mono ?_
                  rintro e w4 ⟨rfl, b4⟩
                  have zzb4 := b4.size; (try simp at zzb4); have zb4_w0 : w.heap.size < w4.heap.size := (by omega); have kcb4_w0 : ∀ o, w4.cell? ⟨w.heap.size, o, none⟩ = _ := fun o => b4.cell (p := ⟨w.heap.size, o, none⟩) (by go_size); have kfb4_w0 : ∀ o, w4.frozen? ⟨w.heap.size, o, none⟩ = _ := fun o => b4.frozen (p := ⟨w.heap.size, o, none⟩) (by go_size); have zb4_w20 : w2.heap.size < w4.heap.size := (by omega); have kcb4_w20 : ∀ o, w4.cell? ⟨w2.heap.size, o, none⟩ = _ := fun o => b4.cell (p := ⟨w2.heap.size, o, none⟩) (by go_size); have kfb4_w20 : ∀ o, w4.frozen? ⟨w2.heap.size, o, none⟩ = _ := fun o => b4.frozen (p := ⟨w2.heap.size, o, none⟩) (by go_size); clear zzb4
                  generalize hmm : M4.mul ⟨p, q, r, t⟩ ⟨0, -1, 1, 0⟩ = mm at *
                  have hMV : mm.v = .agg #[.int .i64 mm.a, .int .i64 mm.b, .int .i64 mm.c, .int .i64 mm.d] := rfl
                  rw [hMV]
                  clear hmm hMV
                  go_wp2
                  go_roundw
                  case rel => exact ⟨j + 1, true, mm.a, mm.b, mm.c, mm.d, by omega, by go_num, rfl, Lib.hid (by unfold At; rw [if_pos rfl]; exact ⟨HE2.out, HN.out⟩), by go_simp, by go_simp, by go_simp, by go_simp, (by intro i; go_simp), by go_simp, by go_simp, by go_simp, by go_simp, (by intro i; go_simp), (by repeat' (first | (with_reducible exact Below.refl _ _) | (with_reducible assumption) | (with_reducible refine below_drewN ?_ _) | (with_reducible refine Below.drew ?_) | (with_reducible refine Below.alloc ?_ ?_ _) | (with_reducible refine Below.setCell ?_ ?_ _) | (with_reducible refine Below.trans ?_ (Below.mono (by with_reducible assumption) ?_)) | go_size | (dsimp only; omega))), by go_size, by go_size⟩
                  case measure => simp [intOf]; omega
              · obtain ⟨f83, g83⟩ := neb (b := s[j]) (x := 83) (n := 83) rfl (by rw [hT2]; decide)
                obtain ⟨f85, g85⟩ := eqb (b := s[j]) (x := 85) (n := 85) rfl hT2
                obtain ⟨f86, g86⟩ := neb (b := s[j]) (x := 86) (n := 86) rfl (by rw [hT2]; decide)
                have hmm : letM s[j] = ⟨1, -1, 1, 0⟩ := by rw [hT2]; rfl
                have hx2 : (s.data.toList.map letM)[j]? = some ⟨1, -1, 1, 0⟩ := by rw [HX2.out, hmm]
                have HX3 := Lib.hid hx2
                clear hT2 hmm hx2
                cases he : M4.ent (M4.mul ⟨p, q, r, t⟩ ⟨1, -1, 1, 0⟩)
                · have hno := prodL_no HX3.out HP.out he
                  have HN := Lib.hid hno
                  have HE2 := Lib.hid he
                  clear hno he
                  go_wp2_with fail
                  refine (l01Times_no ⟨p, q, r, t⟩ ⟨1, -1, 1, 0⟩ _ HM.out (by decide) HE2.out).mono ?_
                  rintro e w4 ⟨rfl, b4⟩
                  have zzb4 := b4.size; (try simp at zzb4); have zb4_w0 : w.heap.size < w4.heap.size := (by omega); have kcb4_w0 : ∀ o, w4.cell? ⟨w.heap.size, o, none⟩ = _ := fun o => b4.cell (p := ⟨w.heap.size, o, none⟩) (by go_size); have kfb4_w0 : ∀ o, w4.frozen? ⟨w.heap.size, o, none⟩ = _ := fun o => b4.frozen (p := ⟨w.heap.size, o, none⟩) (by go_size); have zb4_w20 : w2.heap.size < w4.heap.size := (by omega); have kcb4_w20 : ∀ o, w4.cell? ⟨w2.heap.size, o, none⟩ = _ := fun o => b4.cell (p := ⟨w2.heap.size, o, none⟩) (by go_size); have kfb4_w20 : ∀ o, w4.frozen? ⟨w2.heap.size, o, none⟩ = _ := fun o => b4.frozen (p := ⟨w2.heap.size, o, none⟩) (by go_size); clear zzb4
                  go_wp2
                  go_roundw
                  case rel => exact ⟨j + 1, false, 0, 0, 0, 0, by omega, by go_num, rfl, Lib.hid (by unfold At; rw [if_neg (by simp)]; exact HN.out), by go_simp, by go_simp, by go_simp, by go_simp, (by intro i; go_simp), by go_simp, by go_simp, by go_simp, by go_simp, (by intro i; go_simp), (by repeat' (first | (with_reducible exact Below.refl _ _) | (with_reducible assumption) | (with_reducible refine below_drewN ?_ _) | (with_reducible refine Below.drew ?_) | (with_reducible refine Below.alloc ?_ ?_ _) | (with_reducible refine Below.setCell ?_ ?_ _) | (with_reducible refine Below.trans ?_ (Below.mono (by with_reducible assumption) ?_)) | go_size | (dsimp only; omega))), by go_size, by go_size⟩
                  case measure => simp [intOf]; omega
                · have hgo := prodL_go HX3.out HP.out he
                  have HN := Lib.hid hgo
                  have HE2 := Lib.hid he
                  clear hgo he
                  go_wp2_with fail
                  refine (l01Times_yes ⟨p, q, r, t⟩ ⟨1, -1, 1, 0⟩ _ HM.out (by decide) HE2.out).mono ?_
                  rintro e w4 ⟨rfl, b4⟩
                  have zzb4 := b4.size; (try simp at zzb4); have zb4_w0 : w.heap.size < w4.heap.size := (by omega); have kcb4_w0 : ∀ o, w4.cell? ⟨w.heap.size, o, none⟩ = _ := fun o => b4.cell (p := ⟨w.heap.size, o, none⟩) (by go_size); have kfb4_w0 : ∀ o, w4.frozen? ⟨w.heap.size, o, none⟩ = _ := fun o => b4.frozen (p := ⟨w.heap.size, o, none⟩) (by go_size); have zb4_w20 : w2.heap.size < w4.heap.size := (by omega); have kcb4_w20 : ∀ o, w4.cell? ⟨w2.heap.size, o, none⟩ = _ := fun o => b4.cell (p := ⟨w2.heap.size, o, none⟩) (by go_size); have kfb4_w20 : ∀ o, w4.frozen? ⟨w2.heap.size, o, none⟩ = _ := fun o => b4.frozen (p := ⟨w2.heap.size, o, none⟩) (by go_size); clear zzb4
                  generalize hmm : M4.mul ⟨p, q, r, t⟩ ⟨1, -1, 1, 0⟩ = mm at *
                  have hMV : mm.v = .agg #[.int .i64 mm.a, .int .i64 mm.b, .int .i64 mm.c, .int .i64 mm.d] := rfl
                  rw [hMV]
                  clear hmm hMV
                  go_wp2
                  go_roundw
                  case rel => exact ⟨j + 1, true, mm.a, mm.b, mm.c, mm.d, by omega, by go_num, rfl, Lib.hid (by unfold At; rw [if_pos rfl]; exact ⟨HE2.out, HN.out⟩), by go_simp, by go_simp, by go_simp, by go_simp, (by intro i; go_simp), by go_simp, by go_simp, by go_simp, by go_simp, (by intro i; go_simp), (by repeat' (first | (with_reducible exact Below.refl _ _) | (with_reducible assumption) | (with_reducible refine below_drewN ?_ _) | (with_reducible refine Below.drew ?_) | (with_reducible refine Below.alloc ?_ ?_ _) | (with_reducible refine Below.setCell ?_ ?_ _) | (with_reducible refine Below.trans ?_ (Below.mono (by with_reducible assumption) ?_)) | go_size | (dsimp only; omega))), by go_size, by go_size⟩
                  case measure => simp [intOf]; omega
              · obtain ⟨f83, g83⟩ := neb (b := s[j]) (x := 83) (n := 83) rfl (by rw [hT2]; decide)
                obtain ⟨f85, g85⟩ := neb (b := s[j]) (x := 85) (n := 85) rfl (by rw [hT2]; decide)
                obtain ⟨f86, g86⟩ := eqb (b := s[j]) (x := 86) (n := 86) rfl hT2
                have hmm : letM s[j] = ⟨0, -1, 1, -1⟩ := by rw [hT2]; rfl
                have hx2 : (s.data.toList.map letM)[j]? = some ⟨0, -1, 1, -1⟩ := by rw [HX2.out, hmm]
                have HX3 := Lib.hid hx2
                clear hT2 hmm hx2
                cases he : M4.ent (M4.mul ⟨p, q, r, t⟩ ⟨0, -1, 1, -1⟩)
                · have hno := prodL_no HX3.out HP.out he
                  have HN := Lib.hid hno
                  have HE2 := Lib.hid he
                  clear hno he
                  go_wp2_with fail
                  refine (l01Times_no ⟨p, q, r, t⟩ ⟨0, -1, 1, -1⟩ _ HM.out (by decide) HE2.out).mono ?_
                  rintro e w4 ⟨rfl, b4⟩
                  have zzb4 := b4.size; (try simp at zzb4); have zb4_w0 : w.heap.size < w4.heap.size := (by omega); have kcb4_w0 : ∀ o, w4.cell? ⟨w.heap.size, o, none⟩ = _ := fun o => b4.cell (p := ⟨w.heap.size, o, none⟩) (by go_size); have kfb4_w0 : ∀ o, w4.frozen? ⟨w.heap.size, o, none⟩ = _ := fun o => b4.frozen (p := ⟨w.heap.size, o, none⟩) (by go_size); have zb4_w20 : w2.heap.size < w4.heap.size := (by omega); have kcb4_w20 : ∀ o, w4.cell? ⟨w2.heap.size, o, none⟩ = _ := fun o => b4.cell (p := ⟨w2.heap.size, o, none⟩) (by go_size); have kfb4_w20 : ∀ o, w4.frozen? ⟨w2.heap.size, o, none⟩ = _ := fun o => b4.frozen (p := ⟨w2.heap.size, o, none⟩) (by go_size); clear zzb4
                  go_wp2
                  go_roundw
                  case rel => exact ⟨j + 1, false, 0, 0, 0, 0, by omega, by go_num, rfl, Lib.hid (by unfold At; rw [if_neg (by simp)]; exact HN.out), by go_simp, by go_simp, by go_simp, by go_simp, (by intro i; go_simp), by go_simp, by go_simp, by go_simp, by go_simp, (by intro i; go_simp), (by repeat' (first | (with_reducible exact Below.refl _ _) | (with_reducible assumption) | (with_reducible refine below_drewN ?_ _) | (with_reducible refine Below.drew ?_) | (with_reducible refine Below.alloc ?_ ?_ _) | (with_reducible refine Below.setCell ?_ ?_ _) | (with_reducible refine Below.trans ?_ (Below.mono (by with_reducible assumption) ?_)) | go_size | (dsimp only; omega))), by go_size, by go_size⟩
                  case measure => simp [intOf]; omega
                · have hgo := prodL_go HX3.out HP.out he
                  have HN := Lib.hid hgo
                  have HE2 := Lib.hid he
                  clear hgo he
                  go_wp2_with fail
                  refine (l01Times_yes ⟨p, q, r, t⟩ ⟨0, -1, 1, -1⟩ _ HM.out (by decide) HE2.out).mono ?_
                  rintro e w4 ⟨rfl, b4⟩
                  have zzb4 := b4.size; (try simp at zzb4); have zb4_w0 : w.heap.size < w4.heap.size := (by omega); have kcb4_w0 : ∀ o, w4.cell? ⟨w.heap.size, o, none⟩ = _ := fun o => b4.cell (p := ⟨w.heap.size, o, none⟩) (by go_size); have kfb4_w0 : ∀ o, w4.frozen? ⟨w.heap.size, o, none⟩ = _ := fun o => b4.frozen (p := ⟨w.heap.size, o, none⟩) (by go_size); have zb4_w20 : w2.heap.size < w4.heap.size := (by omega); have kcb4_w20 : ∀ o, w4.cell? ⟨w2.heap.size, o, none⟩ = _ := fun o => b4.cell (p := ⟨w2.heap.size, o, none⟩) (by go_size); have kfb4_w20 : ∀ o, w4.frozen? ⟨w2.heap.size, o, none⟩ = _ := fun o => b4.frozen (p := ⟨w2.heap.size, o, none⟩) (by go_size); clear zzb4
                  generalize hmm : M4.mul ⟨p, q, r, t⟩ ⟨0, -1, 1, -1⟩ = mm at *
                  have hMV : mm.v = .agg #[.int .i64 mm.a, .int .i64 mm.b, .int .i64 mm.c, .int .i64 mm.d] := rfl
                  rw [hMV]
                  clear hmm hMV
                  go_wp2
                  go_roundw
                  case rel => exact ⟨j + 1, true, mm.a, mm.b, mm.c, mm.d, by omega, by go_num, rfl, Lib.hid (by unfold At; rw [if_pos rfl]; exact ⟨HE2.out, HN.out⟩), by go_simp, by go_simp, by go_simp, by go_simp, (by intro i; go_simp), by go_simp, by go_simp, by go_simp, by go_simp, (by intro i; go_simp), (by repeat' (first | (with_reducible exact Below.refl _ _) | (with_reducible assumption) | (with_reducible refine below_drewN ?_ _) | (with_reducible refine Below.drew ?_) | (with_reducible refine Below.alloc ?_ ?_ _) | (with_reducible refine Below.setCell ?_ ?_ _) | (with_reducible refine Below.trans ?_ (Below.mono (by with_reducible assumption) ?_)) | go_size | (dsimp only; omega))), by go_size, by go_size⟩
                  case measure => simp [intOf]; omega
            · have hend : prodV (prodL M4.I (s.data.toList.map letM)) = .tuple #[.agg #[.int .i64 p, .int .i64 q, .int .i64 r, .int .i64 t], .int .i64 0] := by
                have hA := HA.out
                simp only [At] at hA
                rw [prodL_end (by simp; omega) hA.2]; rfl
              have HN := Lib.hid hend
              clear hend
              go_wp2
              exact bodyPost_ret (v := .tuple #[.agg #[.int .i64 p, .int .i64 q, .int .i64 r, .int .i64 t], .int .i64 0]) (by simp only [results, Try.results37]; go_simp) rfl ⟨congrArg Ending.returned HN.out.symm, (by repeat' (first | (with_reducible exact Below.refl _ _) | (with_reducible assumption) | (with_reducible refine below_drewN ?_ _) | (with_reducible refine Below.drew ?_) | (with_reducible refine Below.alloc ?_ ?_ _) | (with_reducible refine Below.setCell ?_ ?_ _) | (with_reducible refine Below.trans ?_ (Below.mono (by with_reducible assumption) ?_)) | go_size | (dsimp only; omega)))⟩
open Classical in
/-- what MatrixOfFree answers -/
noncomputable def freeV (s : ByteArray) : Value := if Free s then prodV (prodL M4.I (s.data.toList.map letM)) else .tuple #[.agg #[.int .i64 0, .int .i64 0, .int .i64 0, .int .i64 0], .int .i64 2]
theorem freeV_form (s : ByteArray) : ∃ a b c d e : Int, freeV s = .tuple #[.agg #[.int .i64 a, .int .i64 b, .int .i64 c, .int .i64 d], .int .i64 e] := by
  unfold freeV
  split
  · exact prodV_form _
  · exact ⟨_, _, _, _, _, rfl⟩
theorem MatrixOfFree_c (s : ByteArray) (w : World) (hs : s.size ≤ 1000000000000) :
    Calls Try.prog 38 #[.string s] w fun e w' => e = .returned (freeV s) ∧ Below w.heap.size w w' := by
  by_cases h : Free s
  · rw [show freeV s = _ from if_pos h]; exact MatrixOfFree_yes s w h
  · rw [show freeV s = _ from if_neg h]; exact MatrixOfFree_no s w hs h
theorem sMatrixOfFree_c (s : ByteArray) (w : World) (hs : s.size ≤ 1000000000000) :
    Calls Try.prog 37 #[.string s] w fun e w' => e = .returned (freeV s) ∧ Below w.heap.size w w' := by
  by_cases h : Free s
  · rw [show freeV s = _ from if_pos h]; exact sMatrixOfFree_yes s w h
  · rw [show freeV s = _ from if_neg h]; exact sMatrixOfFree_no s w hs h
set_option maxHeartbeats 2000000 in
theorem FnExactMatrixOfFree_w (s0 : ByteArray) (h0 : s0.size ≤ 140737488351232) (W : World) :
    Calls Try.prog 10 #[.string s0] W fun e w' => e = .returned (.bool true) ∧ Below W.heap.size W w' := by
  by_cases hb : s0.size ≤ 1048576
  · have hn : ¬ (1048576 < (s0.size : Int)) := by omega
    obtain ⟨x0, x1, x2, x3, x4, hx⟩ := freeV_form s0
    have HX := Lib.hid hx
    clear hx
    go_enter Try.func10, Try.ntmps10
    go_wp2_with fail
    refine (sMatrixOfFree_c s0 _ (by omega)).mono ?_
    rintro e wa ⟨rfl, ba⟩
    rw [HX.out]
    have za := ba.size
    go_wp2_with fail
    refine (MatrixOfFree_c s0 _ (by omega)).mono ?_
    rintro e wb ⟨rfl, bb⟩
    rw [HX.out]
    have zb : W.heap.size ≤ wb.heap.size := by have := bb.size; simp at this; omega
    have zzbb := bb.size; (try simp at zzbb); have zbb_0 : wa.heap.size < wb.heap.size := (by omega); have kcbb_0 : ∀ o, wb.cell? ⟨wa.heap.size, o, none⟩ = _ := fun o => bb.cell (p := ⟨wa.heap.size, o, none⟩) (by go_size); have kfbb_0 : ∀ o, wb.frozen? ⟨wa.heap.size, o, none⟩ = _ := fun o => bb.frozen (p := ⟨wa.heap.size, o, none⟩) (by go_size); clear zzbb
    go_wp2_with fail
    refine (eqMatrix_same _ _ _ _ _).mono ?_
    rintro e w5 ⟨rfl, b5⟩
    have zzb5 := b5.size; (try simp at zzb5); clear zzb5
    go_wp2
    go_returns
    exact ⟨rfl, Below.trans (Below.trans (Below.alloc ba za _) (Below.mono bb (by simp; omega))) (Below.trans (Below.alloc (Below.refl _ _) zb _) (Below.mono b5 (by simp; omega)))⟩
  · have hn : 1048576 < (s0.size : Int) := by omega
    go_enter Try.func10, Try.ntmps10
    go_wp2
    go_returns
    exact ⟨rfl, Below.refl _ _⟩
end Go.Proofs.Ytmopjfjmmdnapaa
