/- Words and rows of matrices: isWord, letter, ofWord. -/
import Derived.Test.YtgpnfjpnbchglaaAD
import Derived.Test.YtgpnfjpnbchglaaP
import Derived.Test.YtgpnfjpnbchglaaN
import Derived.Test.YtgpnfjpnbchglaaSH
import Derived.Lib.IndexLaws
namespace Go.Proofs.Ytgpnfjpnbchglaa
open Go.RowKit
set_option linter.unusedVariables false
set_option linter.unusedSimpArgs false
/-- all letters of a word are among some letters -/
def okW (ls l : List UInt8) : Bool := l.all (fun c => decide (0 ≤ Lib.indexByte ls c))
theorem okW_step {ls l : List UInt8} {k : Nat} (hk : k < l.length) : okW ls (l.drop k) = (decide (0 ≤ Lib.indexByte ls l[k]) && okW ls (l.drop (k + 1))) := by
  rw [List.drop_eq_getElem_cons hk]; rfl
theorem isWord_c (s ls : ByteArray) (w : World) (hs : s.size ≤ 1000000000000) :
    Calls Try.prog 46 #[.string s, .string ls] w fun e w' => e = .returned (.bool (okW ls.data.toList s.data.toList && decide (s.size ≤ 200))) ∧ w = w' := by
  go_enter Try.func46, Try.ntmps46
  go_wp2
  go_loop [8] (fun i => ∃ k : Nat, k ≤ s.size ∧ i = .int .i64 k ∧ Hid (okW ls.data.toList (s.data.toList.drop k) = okW ls.data.toList s.data.toList)) (fun i => s.size - (intOf i).toNat)
  case atStart => exact ⟨0, Nat.zero_le _, rfl, Lib.hid rfl⟩
  case round =>
    obtain ⟨k, hk, rfl, HZ⟩ := hrel
    by_cases hlt : k < s.size
    · have hlt' : k < s.data.toList.length := by simpa using hlt
      have hst := okW_step (ls := ls.data.toList) hlt'
      have hel : s.data.toList[k] = s[k] := rfl
      rw [hel] at hst
      have HST := Lib.hid hst
      have hu : ((s[k].toNat : Int).toNat.toUInt8) = s[k] := by simp
      have HU := Lib.hid hu
      clear hst hel hu
      cases hx : decide (0 ≤ Lib.indexByte ls.data.toList s[k])
      · have hx2 : Lib.indexByte ls.data.toList s[k] < 0 := by simpa using hx
        go_wp2_with (go_at_call 72; refine (Try.strings_IndexByte _ _ _).mono ?_; rintro e w' ⟨rfl, rfl⟩; rw [HU.out])
        go_ret
        exact ⟨by rw [← HZ.out, HST.out, hx]; simp, rfl⟩
      · have hx2 : 0 ≤ Lib.indexByte ls.data.toList s[k] := by simpa using hx
        go_wp2_with (go_at_call 72; refine (Try.strings_IndexByte _ _ _).mono ?_; rintro e w' ⟨rfl, rfl⟩; rw [HU.out])
        go_round
        case rel => exact ⟨k + 1, by omega, by go_num, Lib.hid (by rw [← HZ.out, HST.out, hx]; simp)⟩
        case measure => simp [intOf]; omega
    · go_wp2
      go_ret
      refine ⟨?_, rfl⟩
      have e1 : okW ls.data.toList s.data.toList = true := by rw [← HZ.out, List.drop_of_length_le (by simp; omega)]; rfl
      rw [e1]; simp; omega
/-- the matrix of a letter -/
def letM (b : UInt8) : M4 :=
  if b = 83 then ⟨0, -1, 1, 0⟩ else if b = 84 then ⟨1, 1, 0, 1⟩ else if b = 116 then ⟨1, -1, 0, 1⟩ else if b = 76 then ⟨1, 0, 1, 1⟩ else if b = 108 then ⟨1, 0, -1, 1⟩ else if b = 85 then ⟨1, -1, 1, 0⟩ else ⟨0, -1, 1, -1⟩
def isL (b : UInt8) : Prop := b = 83 ∨ b = 84 ∨ b = 116 ∨ b = 76 ∨ b = 108 ∨ b = 85 ∨ b = 86
theorem letter_83 (w : World) : Calls Try.prog 41 #[.int .u8 83] w fun e w' => e = .returned (.agg #[.int .i64 0, .int .i64 (-1), .int .i64 1, .int .i64 0]) ∧ Below w.heap.size w w' := by
  go_enter Try.func41, Try.ntmps41
  go_wp2_with fail
  refine (named_c _ _).mono ?_
  rintro e w2 ⟨rfl, b2⟩
  rw [show nameOf (Utf8.encode 83).toList = some (0, -1, 1, 0) from by kernel_rfl]
  simp only [optM, Option.isSome]
  have zzb2 := b2.size; (try simp at zzb2); have zb2_0 : w.heap.size < w2.heap.size := (by omega); have kcb2_0 : ∀ o, w2.cell? ⟨w.heap.size, o, none⟩ = _ := fun o => b2.cell (p := ⟨w.heap.size, o, none⟩) (by go_size); have kfb2_0 : ∀ o, w2.frozen? ⟨w.heap.size, o, none⟩ = _ := fun o => b2.frozen (p := ⟨w.heap.size, o, none⟩) (by go_size); clear zzb2
  go_wp2
  exact bodyPost_ret (v := .agg #[.int .i64 0, .int .i64 (-1), .int .i64 1, .int .i64 0]) (by simp only [results, Try.results41]; go_simp) rfl ⟨rfl, (by repeat' (first | (with_reducible exact Below.refl _ _) | (with_reducible assumption) | (with_reducible refine below_drewN ?_ _) | (with_reducible refine Below.drew ?_) | (with_reducible refine Below.alloc ?_ ?_ _) | (with_reducible refine Below.setCell ?_ ?_ _) | (with_reducible refine Below.trans ?_ (Below.mono (by with_reducible assumption) ?_)) | go_size | (dsimp only; omega)))⟩
theorem letter_84 (w : World) : Calls Try.prog 41 #[.int .u8 84] w fun e w' => e = .returned (.agg #[.int .i64 1, .int .i64 1, .int .i64 0, .int .i64 1]) ∧ Below w.heap.size w w' := by
  go_enter Try.func41, Try.ntmps41
  go_wp2_with fail
  refine (named_c _ _).mono ?_
  rintro e w2 ⟨rfl, b2⟩
  rw [show nameOf (Utf8.encode 84).toList = some (1, 1, 0, 1) from by kernel_rfl]
  simp only [optM, Option.isSome]
  have zzb2 := b2.size; (try simp at zzb2); have zb2_0 : w.heap.size < w2.heap.size := (by omega); have kcb2_0 : ∀ o, w2.cell? ⟨w.heap.size, o, none⟩ = _ := fun o => b2.cell (p := ⟨w.heap.size, o, none⟩) (by go_size); have kfb2_0 : ∀ o, w2.frozen? ⟨w.heap.size, o, none⟩ = _ := fun o => b2.frozen (p := ⟨w.heap.size, o, none⟩) (by go_size); clear zzb2
  go_wp2
  exact bodyPost_ret (v := .agg #[.int .i64 1, .int .i64 1, .int .i64 0, .int .i64 1]) (by simp only [results, Try.results41]; go_simp) rfl ⟨rfl, (by repeat' (first | (with_reducible exact Below.refl _ _) | (with_reducible assumption) | (with_reducible refine below_drewN ?_ _) | (with_reducible refine Below.drew ?_) | (with_reducible refine Below.alloc ?_ ?_ _) | (with_reducible refine Below.setCell ?_ ?_ _) | (with_reducible refine Below.trans ?_ (Below.mono (by with_reducible assumption) ?_)) | go_size | (dsimp only; omega)))⟩
theorem letter_116 (w : World) : Calls Try.prog 41 #[.int .u8 116] w fun e w' => e = .returned (.agg #[.int .i64 1, .int .i64 (-1), .int .i64 0, .int .i64 1]) ∧ Below w.heap.size w w' := by
  go_enter Try.func41, Try.ntmps41
  go_wp2
  exact bodyPost_ret (v := .agg #[.int .i64 1, .int .i64 (-1), .int .i64 0, .int .i64 1]) (by simp only [results, Try.results41]; go_simp) rfl ⟨rfl, (by repeat' (first | (with_reducible exact Below.refl _ _) | (with_reducible assumption) | (with_reducible refine below_drewN ?_ _) | (with_reducible refine Below.drew ?_) | (with_reducible refine Below.alloc ?_ ?_ _) | (with_reducible refine Below.setCell ?_ ?_ _) | (with_reducible refine Below.trans ?_ (Below.mono (by with_reducible assumption) ?_)) | go_size | (dsimp only; omega)))⟩
theorem letter_76 (w : World) : Calls Try.prog 41 #[.int .u8 76] w fun e w' => e = .returned (.agg #[.int .i64 1, .int .i64 0, .int .i64 1, .int .i64 1]) ∧ Below w.heap.size w w' := by
  go_enter Try.func41, Try.ntmps41
  go_wp2_with fail
  refine (named_c _ _).mono ?_
  rintro e w2 ⟨rfl, b2⟩
  rw [show nameOf (Utf8.encode 76).toList = some (1, 0, 1, 1) from by kernel_rfl]
  simp only [optM, Option.isSome]
  have zzb2 := b2.size; (try simp at zzb2); have zb2_0 : w.heap.size < w2.heap.size := (by omega); have kcb2_0 : ∀ o, w2.cell? ⟨w.heap.size, o, none⟩ = _ := fun o => b2.cell (p := ⟨w.heap.size, o, none⟩) (by go_size); have kfb2_0 : ∀ o, w2.frozen? ⟨w.heap.size, o, none⟩ = _ := fun o => b2.frozen (p := ⟨w.heap.size, o, none⟩) (by go_size); clear zzb2
  go_wp2
  exact bodyPost_ret (v := .agg #[.int .i64 1, .int .i64 0, .int .i64 1, .int .i64 1]) (by simp only [results, Try.results41]; go_simp) rfl ⟨rfl, (by repeat' (first | (with_reducible exact Below.refl _ _) | (with_reducible assumption) | (with_reducible refine below_drewN ?_ _) | (with_reducible refine Below.drew ?_) | (with_reducible refine Below.alloc ?_ ?_ _) | (with_reducible refine Below.setCell ?_ ?_ _) | (with_reducible refine Below.trans ?_ (Below.mono (by with_reducible assumption) ?_)) | go_size | (dsimp only; omega)))⟩
theorem letter_108 (w : World) : Calls Try.prog 41 #[.int .u8 108] w fun e w' => e = .returned (.agg #[.int .i64 1, .int .i64 0, .int .i64 (-1), .int .i64 1]) ∧ Below w.heap.size w w' := by
  go_enter Try.func41, Try.ntmps41
  go_wp2
  exact bodyPost_ret (v := .agg #[.int .i64 1, .int .i64 0, .int .i64 (-1), .int .i64 1]) (by simp only [results, Try.results41]; go_simp) rfl ⟨rfl, (by repeat' (first | (with_reducible exact Below.refl _ _) | (with_reducible assumption) | (with_reducible refine below_drewN ?_ _) | (with_reducible refine Below.drew ?_) | (with_reducible refine Below.alloc ?_ ?_ _) | (with_reducible refine Below.setCell ?_ ?_ _) | (with_reducible refine Below.trans ?_ (Below.mono (by with_reducible assumption) ?_)) | go_size | (dsimp only; omega)))⟩
theorem letter_85 (w : World) : Calls Try.prog 41 #[.int .u8 85] w fun e w' => e = .returned (.agg #[.int .i64 1, .int .i64 (-1), .int .i64 1, .int .i64 0]) ∧ Below w.heap.size w w' := by
  go_enter Try.func41, Try.ntmps41
  go_wp2_with fail
  refine (named_c _ _).mono ?_
  rintro e w2 ⟨rfl, b2⟩
  rw [show nameOf (Utf8.encode 85).toList = some (1, -1, 1, 0) from by kernel_rfl]
  simp only [optM, Option.isSome]
  have zzb2 := b2.size; (try simp at zzb2); have zb2_0 : w.heap.size < w2.heap.size := (by omega); have kcb2_0 : ∀ o, w2.cell? ⟨w.heap.size, o, none⟩ = _ := fun o => b2.cell (p := ⟨w.heap.size, o, none⟩) (by go_size); have kfb2_0 : ∀ o, w2.frozen? ⟨w.heap.size, o, none⟩ = _ := fun o => b2.frozen (p := ⟨w.heap.size, o, none⟩) (by go_size); clear zzb2
  go_wp2
  exact bodyPost_ret (v := .agg #[.int .i64 1, .int .i64 (-1), .int .i64 1, .int .i64 0]) (by simp only [results, Try.results41]; go_simp) rfl ⟨rfl, (by repeat' (first | (with_reducible exact Below.refl _ _) | (with_reducible assumption) | (with_reducible refine below_drewN ?_ _) | (with_reducible refine Below.drew ?_) | (with_reducible refine Below.alloc ?_ ?_ _) | (with_reducible refine Below.setCell ?_ ?_ _) | (with_reducible refine Below.trans ?_ (Below.mono (by with_reducible assumption) ?_)) | go_size | (dsimp only; omega)))⟩
theorem letter_86 (w : World) : Calls Try.prog 41 #[.int .u8 86] w fun e w' => e = .returned (.agg #[.int .i64 0, .int .i64 (-1), .int .i64 1, .int .i64 (-1)]) ∧ Below w.heap.size w w' := by
  go_enter Try.func41, Try.ntmps41
  go_wp2
  exact bodyPost_ret (v := .agg #[.int .i64 0, .int .i64 (-1), .int .i64 1, .int .i64 (-1)]) (by simp only [results, Try.results41]; go_simp) rfl ⟨rfl, (by repeat' (first | (with_reducible exact Below.refl _ _) | (with_reducible assumption) | (with_reducible refine below_drewN ?_ _) | (with_reducible refine Below.drew ?_) | (with_reducible refine Below.alloc ?_ ?_ _) | (with_reducible refine Below.setCell ?_ ?_ _) | (with_reducible refine Below.trans ?_ (Below.mono (by with_reducible assumption) ?_)) | go_size | (dsimp only; omega)))⟩
theorem letter_c (b : UInt8) (w : World) (hb : isL b) :
    Calls Try.prog 41 #[.int .u8 b.toNat] w fun e w' => e = .returned (letM b).v ∧ Below w.heap.size w w' := by
  rcases hb with rfl | rfl | rfl | rfl | rfl | rfl | rfl
  · exact letter_83 w
  · exact letter_84 w
  · exact letter_116 w
  · exact letter_76 w
  · exact letter_108 w
  · exact letter_85 w
  · exact letter_86 w
theorem l02Letter_83 (w : World) : Calls Try.prog 48 #[.int .u8 83] w fun e w' => e = .returned (.tuple #[.agg #[.int .i64 0, .int .i64 (-1), .int .i64 1, .int .i64 0], .bool true]) ∧ Below w.heap.size w w' := by
  go_enter Try.func48, Try.ntmps48
  go_wp2
  exact bodyPost_ret (v := .tuple #[.agg #[.int .i64 0, .int .i64 (-1), .int .i64 1, .int .i64 0], .bool true]) (by simp only [results, Try.results48]; go_simp) rfl ⟨rfl, (by repeat' (first | (with_reducible exact Below.refl _ _) | (with_reducible assumption) | (with_reducible refine below_drewN ?_ _) | (with_reducible refine Below.drew ?_) | (with_reducible refine Below.alloc ?_ ?_ _) | (with_reducible refine Below.setCell ?_ ?_ _) | (with_reducible refine Below.trans ?_ (Below.mono (by with_reducible assumption) ?_)) | go_size | (dsimp only; omega)))⟩
theorem l02Letter_84 (w : World) : Calls Try.prog 48 #[.int .u8 84] w fun e w' => e = .returned (.tuple #[.agg #[.int .i64 1, .int .i64 1, .int .i64 0, .int .i64 1], .bool true]) ∧ Below w.heap.size w w' := by
  go_enter Try.func48, Try.ntmps48
  go_wp2
  exact bodyPost_ret (v := .tuple #[.agg #[.int .i64 1, .int .i64 1, .int .i64 0, .int .i64 1], .bool true]) (by simp only [results, Try.results48]; go_simp) rfl ⟨rfl, (by repeat' (first | (with_reducible exact Below.refl _ _) | (with_reducible assumption) | (with_reducible refine below_drewN ?_ _) | (with_reducible refine Below.drew ?_) | (with_reducible refine Below.alloc ?_ ?_ _) | (with_reducible refine Below.setCell ?_ ?_ _) | (with_reducible refine Below.trans ?_ (Below.mono (by with_reducible assumption) ?_)) | go_size | (dsimp only; omega)))⟩
theorem l02Letter_116 (w : World) : Calls Try.prog 48 #[.int .u8 116] w fun e w' => e = .returned (.tuple #[.agg #[.int .i64 1, .int .i64 (-1), .int .i64 0, .int .i64 1], .bool true]) ∧ Below w.heap.size w w' := by
  go_enter Try.func48, Try.ntmps48
  go_wp2
  exact bodyPost_ret (v := .tuple #[.agg #[.int .i64 1, .int .i64 (-1), .int .i64 0, .int .i64 1], .bool true]) (by simp only [results, Try.results48]; go_simp) rfl ⟨rfl, (by repeat' (first | (with_reducible exact Below.refl _ _) | (with_reducible assumption) | (with_reducible refine below_drewN ?_ _) | (with_reducible refine Below.drew ?_) | (with_reducible refine Below.alloc ?_ ?_ _) | (with_reducible refine Below.setCell ?_ ?_ _) | (with_reducible refine Below.trans ?_ (Below.mono (by with_reducible assumption) ?_)) | go_size | (dsimp only; omega)))⟩
theorem l02Letter_76 (w : World) : Calls Try.prog 48 #[.int .u8 76] w fun e w' => e = .returned (.tuple #[.agg #[.int .i64 1, .int .i64 0, .int .i64 1, .int .i64 1], .bool true]) ∧ Below w.heap.size w w' := by
  go_enter Try.func48, Try.ntmps48
  go_wp2
  exact bodyPost_ret (v := .tuple #[.agg #[.int .i64 1, .int .i64 0, .int .i64 1, .int .i64 1], .bool true]) (by simp only [results, Try.results48]; go_simp) rfl ⟨rfl, (by repeat' (first | (with_reducible exact Below.refl _ _) | (with_reducible assumption) | (with_reducible refine below_drewN ?_ _) | (with_reducible refine Below.drew ?_) | (with_reducible refine Below.alloc ?_ ?_ _) | (with_reducible refine Below.setCell ?_ ?_ _) | (with_reducible refine Below.trans ?_ (Below.mono (by with_reducible assumption) ?_)) | go_size | (dsimp only; omega)))⟩
theorem l02Letter_108 (w : World) : Calls Try.prog 48 #[.int .u8 108] w fun e w' => e = .returned (.tuple #[.agg #[.int .i64 1, .int .i64 0, .int .i64 (-1), .int .i64 1], .bool true]) ∧ Below w.heap.size w w' := by
  go_enter Try.func48, Try.ntmps48
  go_wp2
  exact bodyPost_ret (v := .tuple #[.agg #[.int .i64 1, .int .i64 0, .int .i64 (-1), .int .i64 1], .bool true]) (by simp only [results, Try.results48]; go_simp) rfl ⟨rfl, (by repeat' (first | (with_reducible exact Below.refl _ _) | (with_reducible assumption) | (with_reducible refine below_drewN ?_ _) | (with_reducible refine Below.drew ?_) | (with_reducible refine Below.alloc ?_ ?_ _) | (with_reducible refine Below.setCell ?_ ?_ _) | (with_reducible refine Below.trans ?_ (Below.mono (by with_reducible assumption) ?_)) | go_size | (dsimp only; omega)))⟩
theorem l02Letter_yes (b : UInt8) (w : World) (hb : b = 83 ∨ b = 84 ∨ b = 116 ∨ b = 76 ∨ b = 108) :
    Calls Try.prog 48 #[.int .u8 b.toNat] w fun e w' => e = .returned (.tuple #[(letM b).v, .bool true]) ∧ Below w.heap.size w w' := by
  rcases hb with rfl | rfl | rfl | rfl | rfl
  · exact l02Letter_83 w
  · exact l02Letter_84 w
  · exact l02Letter_116 w
  · exact l02Letter_76 w
  · exact l02Letter_108 w
theorem l02Letter_no (b : UInt8) (w : World) (hb : ¬ (b = 83 ∨ b = 84 ∨ b = 116 ∨ b = 76 ∨ b = 108)) :
    Calls Try.prog 48 #[.int .u8 b.toNat] w fun e w' => e = .returned (.tuple #[.agg #[.int .i64 0, .int .i64 0, .int .i64 0, .int .i64 0], .bool false]) ∧ Below w.heap.size w w' := by
  have ne : ∀ x : UInt8, b ≠ x → ((b.toNat : Int) == (x.toNat : Int)) = false := by
    intro x h
    have : b.toNat ≠ x.toNat := fun e => h (UInt8.toNat_inj.mp e)
    simp; omega
  have n83 : ((b.toNat : Int) == 83) = false := ne 83 (by rintro rfl; simp at hb)
  have n84 : ((b.toNat : Int) == 84) = false := ne 84 (by rintro rfl; simp at hb)
  have n116 : ((b.toNat : Int) == 116) = false := ne 116 (by rintro rfl; simp at hb)
  have n76 : ((b.toNat : Int) == 76) = false := ne 76 (by rintro rfl; simp at hb)
  have n108 : ((b.toNat : Int) == 108) = false := ne 108 (by rintro rfl; simp at hb)

  clear ne hb
  go_enter Try.func48, Try.ntmps48
  go_wp2
  exact bodyPost_ret (v := .tuple #[.agg #[.int .i64 0, .int .i64 0, .int .i64 0, .int .i64 0], .bool false]) (by simp only [results, Try.results48]; go_simp) rfl ⟨rfl, (by repeat' (first | (with_reducible exact Below.refl _ _) | (with_reducible assumption) | (with_reducible refine below_drewN ?_ _) | (with_reducible refine Below.drew ?_) | (with_reducible refine Below.alloc ?_ ?_ _) | (with_reducible refine Below.setCell ?_ ?_ _) | (with_reducible refine Below.trans ?_ (Below.mono (by with_reducible assumption) ?_)) | go_size | (dsimp only; omega)))⟩
end Go.Proofs.Ytgpnfjpnbchglaa
