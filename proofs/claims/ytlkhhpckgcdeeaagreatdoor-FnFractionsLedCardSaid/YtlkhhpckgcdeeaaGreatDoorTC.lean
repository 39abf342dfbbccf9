/- FractionText, MatrixText: the walks and the laws. -/
import Derived.Test.YtlkhhpckgcdeeaaGreatDoorTB
import Derived.Test.YtlkhhpckgcdeeaaGreatDoorH
import Derived.Test.YtlkhhpckgcdeeaaGreatDoorK
import Derived.LaidMore
import Derived.Deep.RegionHeld3
namespace Go.Proofs.YtlkhhpckgcdeeaaGreatDoor
open Go.RowKit
set_option linter.unusedVariables false
set_option linter.unusedSimpArgs false
theorem tab_at {P : Program} {B : Nat} {w w1 : World} {n : String} {k : IntKind} {zs : List Int} (h : Lib.TabBelow P B w n k zs) (hb : Below B w w1) (hB : B ≤ w1.heap.size) : Lib.TabBelow P w1.heap.size w1 n k zs :=
  fun w' h' => h w' (Below.trans hb (Below.mono h' hB))
theorem txt2 (a b : List UInt8) (y : UInt8) : (((⟨a.toArray⟩ : ByteArray) ++ (⟨#[y]⟩ : ByteArray)) ++ (⟨b.toArray⟩ : ByteArray)) = ⟨(a ++ (y :: b)).toArray⟩ := by
  apply ByteArray.ext
  simp [ByteArray.data_append]
theorem joinT2 (p q : Int) (y : UInt8) : joinT [p, q] y = Lib.itoa p ++ (y :: Lib.itoa q) := by
  simp [joinT, Lib.join_cons, Lib.joinTail]
theorem joinT4 (p q r s : Int) (y : UInt8) : joinT [p, q, r, s] y = Lib.itoa p ++ (y :: Lib.itoa q) ++ (y :: Lib.itoa r) ++ (y :: Lib.itoa s) := by
  simp [joinT, Lib.join_cons, Lib.joinTail]
theorem txt4 (a b c d : List UInt8) (y : UInt8) : (((((((⟨a.toArray⟩ : ByteArray) ++ (⟨#[y]⟩ : ByteArray)) ++ (⟨b.toArray⟩ : ByteArray)) ++ (⟨#[y]⟩ : ByteArray)) ++ (⟨c.toArray⟩ : ByteArray)) ++ (⟨#[y]⟩ : ByteArray)) ++ (⟨d.toArray⟩ : ByteArray)) = ⟨(a ++ (y :: b) ++ (y :: c) ++ (y :: d)).toArray⟩ := by
  apply ByteArray.ext
  simp [ByteArray.data_append]
set_option maxRecDepth 100000 in
set_option maxHeartbeats 4000000 in
theorem l01FractionText_c (p q : Int) (w : World) (hp0 : -1000000000 ≤ p) (hp1 : p ≤ 1000000000) (hq0 : -1000000000 ≤ q) (hq1 : q ≤ 1000000000) :
    Calls Tryz.prog 98 #[.agg #[.int .i64 p, .int .i64 q]] w fun e w' => e = .returned (.string ⟨(joinT [p, q] 47).toArray⟩) ∧ Below w.heap.size w w' := by
  rw [joinT2]
  have K0 := Lib.hid (fun w => l01Dec_c p w hp0 hp1)
  have K1 := Lib.hid (fun w => l01Dec_c q w hq0 hq1)
  have l0 := itoa_len hp0 hp1
  have l1 := itoa_len hq0 hq1
  generalize Lib.itoa p = a at *
  generalize Lib.itoa q = b at *
  have f1 : ¬ (9223372036854775807 < a.length + 1) := by omega
  have f2 : ¬ (9223372036854775807 < a.length + 1 + b.length) := by omega
  go_enter Tryz.func98, Tryz.ntmps98
  go_wp2
  go_region_held3 (fun w' => w'.cell? ⟨w.heap.size, 0, none⟩ = some (.int .i64 p) ∧ w'.cell? ⟨w.heap.size, 1, none⟩ = some (.int .i64 q)) (first | go_keep | (go_split_ands; refine ⟨?_, ?_⟩ <;> first | (with_reducible assumption) | (with_reducible exact held_cell hb (by with_reducible assumption)))) (first | (go_at_call_of 126 (Value.int IntKind.i64 p); refine (K0.out _).mono ?_; rintro e w2 ⟨rfl, hb⟩; have zz := hb.size; (try simp only [World.size_alloc, World.size_drew] at zz)) | (go_at_call_of 126 (Value.int IntKind.i64 q); refine (K1.out _).mono ?_; rintro e w3 ⟨rfl, hb⟩; have zz := hb.size; (try simp only [World.size_alloc, World.size_drew] at zz)))
  all_goals (try go_split_ands)
  all_goals go_wp2
  all_goals go_returns
  all_goals exact ⟨congrArg Ending.returned (congrArg Value.string (txt2 a b 47)), (by repeat' (first | (with_reducible exact Below.refl _ _) | (with_reducible assumption) | (with_reducible refine below_drewN ?_ _) | (with_reducible refine Below.drew ?_) | (with_reducible refine Below.alloc ?_ ?_ _) | (with_reducible refine Below.setCell ?_ ?_ _) | (with_reducible refine Below.trans ?_ (Below.mono (by with_reducible assumption) ?_)) | go_size | (dsimp only; omega)))⟩
set_option maxRecDepth 100000 in
set_option maxHeartbeats 8000000 in
theorem l01Text_c (p q r s : Int) (w : World) (hp0 : -1000000000 ≤ p) (hp1 : p ≤ 1000000000) (hq0 : -1000000000 ≤ q) (hq1 : q ≤ 1000000000) (hr0 : -1000000000 ≤ r) (hr1 : r ≤ 1000000000) (hs0 : -1000000000 ≤ s) (hs1 : s ≤ 1000000000) :
    Calls Tryz.prog 110 #[.agg #[.int .i64 p, .int .i64 q, .int .i64 r, .int .i64 s]] w fun e w' => e = .returned (.string ⟨(joinT [p, q, r, s] 44).toArray⟩) ∧ Below w.heap.size w w' := by
  rw [joinT4]
  have K0 := Lib.hid (fun w => l01Dec_c p w hp0 hp1)
  have l0 := itoa_len hp0 hp1
  have K1 := Lib.hid (fun w => l01Dec_c q w hq0 hq1)
  have l1 := itoa_len hq0 hq1
  have K2 := Lib.hid (fun w => l01Dec_c r w hr0 hr1)
  have l2 := itoa_len hr0 hr1
  have K3 := Lib.hid (fun w => l01Dec_c s w hs0 hs1)
  have l3 := itoa_len hs0 hs1
  generalize Lib.itoa p = a at *
  generalize Lib.itoa q = b at *
  generalize Lib.itoa r = c at *
  generalize Lib.itoa s = d at *
  have f0 : ¬ (9223372036854775807 < a.length + 1) := by omega
  have f1 : ¬ (9223372036854775807 < a.length + 1 + b.length) := by omega
  have f2 : ¬ (9223372036854775807 < a.length + 1 + b.length + 1) := by omega
  have f3 : ¬ (9223372036854775807 < a.length + 1 + b.length + 1 + c.length) := by omega
  have f4 : ¬ (9223372036854775807 < a.length + 1 + b.length + 1 + c.length + 1) := by omega
  have f5 : ¬ (9223372036854775807 < a.length + 1 + b.length + 1 + c.length + 1 + d.length) := by omega
  clear hp0 hp1 hq0 hq1 hr0 hr1 hs0 hs1
  go_enter Tryz.func110, Tryz.ntmps110
  go_wp2
  go_region_held3 (fun w' => w'.cell? ⟨w.heap.size, 0, none⟩ = some (.int .i64 p) ∧ w'.cell? ⟨w.heap.size, 1, none⟩ = some (.int .i64 q) ∧ w'.cell? ⟨w.heap.size, 2, none⟩ = some (.int .i64 r) ∧ w'.cell? ⟨w.heap.size, 3, none⟩ = some (.int .i64 s)) (first | go_keep | (go_split_ands; refine ⟨?_, ?_, ?_, ?_⟩ <;> first | (with_reducible assumption) | (with_reducible exact held_cell hb (by with_reducible assumption)))) (first | (go_at_call_of 126 (Value.int IntKind.i64 p); refine (K0.out _).mono ?_; rintro e w2 ⟨rfl, hb⟩; have zz := hb.size; (try simp only [World.size_alloc, World.size_drew] at zz)) | (go_at_call_of 126 (Value.int IntKind.i64 q); refine (K1.out _).mono ?_; rintro e w3 ⟨rfl, hb⟩; have zz := hb.size; (try simp only [World.size_alloc, World.size_drew] at zz)) | (go_at_call_of 126 (Value.int IntKind.i64 r); refine (K2.out _).mono ?_; rintro e w4 ⟨rfl, hb⟩; have zz := hb.size; (try simp only [World.size_alloc, World.size_drew] at zz)) | (go_at_call_of 126 (Value.int IntKind.i64 s); refine (K3.out _).mono ?_; rintro e w5 ⟨rfl, hb⟩; have zz := hb.size; (try simp only [World.size_alloc, World.size_drew] at zz)))
  all_goals (try go_split_ands)
  all_goals go_wp2
  all_goals go_returns
  all_goals exact ⟨congrArg Ending.returned (congrArg Value.string (txt4 a b c d 44)), (by repeat' (first | (with_reducible exact Below.refl _ _) | (with_reducible assumption) | (with_reducible refine below_drewN ?_ _) | (with_reducible refine Below.drew ?_) | (with_reducible refine Below.alloc ?_ ?_ _) | (with_reducible refine Below.setCell ?_ ?_ _) | (with_reducible refine Below.trans ?_ (Below.mono (by with_reducible assumption) ?_)) | go_size | (dsimp only; omega)))⟩
theorem FractionText_no (p q : Int) (w : World) (h : isF p q = false) :
    Calls Tryz.prog 12 #[.agg #[.int .i64 p, .int .i64 q]] w fun e w' => e = .returned (.tuple #[.string ⟨#[]⟩, .int .i64 1]) ∧ Below w.heap.size w w' := by
  have H := Lib.hid h
  clear h
  go_enter Tryz.func12, Tryz.ntmps12
  go_wp2_with fail
  refine (IsFraction_c _ _ _).mono ?_
  rintro e w1 ⟨rfl, b1⟩
  have zzb1 := b1.size; (try simp at zzb1); have zb1_0 : w.heap.size < w1.heap.size := (by omega); have kcb1_0 : ∀ o, w1.cell? ⟨w.heap.size, o, none⟩ = _ := fun o => b1.cell (p := ⟨w.heap.size, o, none⟩) (by go_size); have kfb1_0 : ∀ o, w1.frozen? ⟨w.heap.size, o, none⟩ = _ := fun o => b1.frozen (p := ⟨w.heap.size, o, none⟩) (by go_size); clear zzb1
  rw [H.out]
  go_wp2
  go_returns
  exact ⟨rfl, (by repeat' (first | (with_reducible exact Below.refl _ _) | (with_reducible assumption) | (with_reducible refine below_drewN ?_ _) | (with_reducible refine Below.drew ?_) | (with_reducible refine Below.alloc ?_ ?_ _) | (with_reducible refine Below.setCell ?_ ?_ _) | (with_reducible refine Below.trans ?_ (Below.mono (by with_reducible assumption) ?_)) | go_size | (dsimp only; omega)))⟩
set_option maxHeartbeats 2000000 in
theorem FractionText_yes (p q : Int) (w : World) (h : isF p q = true) (HT : Hid (Lib.TabBelow Tryz.prog w.heap.size w "internal/strconv.uint64pow10" .u64 Lib.pow10Tab)) :
    Calls Tryz.prog 12 #[.agg #[.int .i64 p, .int .i64 q]] w fun e w' => e = .returned (.tuple #[.string ⟨(joinT [p, q] 47).toArray⟩, .int .i64 0]) ∧ Below w.heap.size w w' := by
  have HE : Hid (∀ z ∈ [p, q], -1000000000 ≤ z ∧ z ≤ 1000000000) := by
    apply Lib.hid
    have hF := isF_iff.mp h
    intro z hz
    simp only [List.mem_cons, List.not_mem_nil, or_false] at hz
    rcases hz with rfl | rfl <;> omega
  have H := Lib.hid h
  clear h
  go_enter Tryz.func12, Tryz.ntmps12
  go_wp2_with fail
  refine (IsFraction_c _ _ _).mono ?_
  rintro e w1 ⟨rfl, b1⟩
  have zzb1 := b1.size; (try simp at zzb1); have zb1_0 : w.heap.size < w1.heap.size := (by omega); have kcb1_0 : ∀ o, w1.cell? ⟨w.heap.size, o, none⟩ = _ := fun o => b1.cell (p := ⟨w.heap.size, o, none⟩) (by go_size); have kfb1_0 : ∀ o, w1.frozen? ⟨w.heap.size, o, none⟩ = _ := fun o => b1.frozen (p := ⟨w.heap.size, o, none⟩) (by go_size); clear zzb1
  rw [H.out]
  have hB1 : Below w.heap.size w w1 := (by repeat' (first | (with_reducible exact Below.refl _ _) | (with_reducible assumption) | (with_reducible refine below_drewN ?_ _) | (with_reducible refine Below.drew ?_) | (with_reducible refine Below.alloc ?_ ?_ _) | (with_reducible refine Below.setCell ?_ ?_ _) | (with_reducible refine Below.trans ?_ (Below.mono (by with_reducible assumption) ?_)) | go_size | (dsimp only; omega)))
  have HR : Hid (∀ k, k < ([p, q] : List Int).length → w1.cell? ⟨w.heap.size, 0 + k, none⟩ = some (.int .i64 (([p, q] : List Int).getD k 0))) := by
    apply Lib.hid
    intro k hk
    have hk' : k < 2 := hk
    rw [kcb1_0]
    match k, hk' with
    | 0, _ => go_simp
    | 1, _ => go_simp
  go_wp2_with fail
  refine (joined_c w.heap.size 2 2 [p, q] 47 _ (by omega) HR (Lib.hid rfl) (by omega) (by omega) HE (Lib.hid (tab_at HT.out hB1 (by omega)))).mono ?_
  rintro e w2 ⟨rfl, b2⟩
  go_wp2
  go_returns
  exact ⟨rfl, (by repeat' (first | (with_reducible exact Below.refl _ _) | (with_reducible assumption) | (with_reducible refine below_drewN ?_ _) | (with_reducible refine Below.drew ?_) | (with_reducible refine Below.alloc ?_ ?_ _) | (with_reducible refine Below.setCell ?_ ?_ _) | (with_reducible refine Below.trans ?_ (Below.mono (by with_reducible assumption) ?_)) | go_size | (dsimp only; omega)))⟩
theorem MatrixText_no (p q r s : Int) (w : World) (h : isM p q r s = false) :
    Calls Tryz.prog 42 #[.agg #[.int .i64 p, .int .i64 q, .int .i64 r, .int .i64 s]] w fun e w' => e = .returned (.tuple #[.string ⟨#[]⟩, .int .i64 1]) ∧ Below w.heap.size w w' := by
  have H := Lib.hid h
  clear h
  go_enter Tryz.func42, Tryz.ntmps42
  go_wp2_with fail
  refine (IsMatrix_c _ _ _ _ _).mono ?_
  rintro e w1 ⟨rfl, b1⟩
  have zzb1 := b1.size; (try simp at zzb1); have zb1_0 : w.heap.size < w1.heap.size := (by omega); have kcb1_0 : ∀ o, w1.cell? ⟨w.heap.size, o, none⟩ = _ := fun o => b1.cell (p := ⟨w.heap.size, o, none⟩) (by go_size); have kfb1_0 : ∀ o, w1.frozen? ⟨w.heap.size, o, none⟩ = _ := fun o => b1.frozen (p := ⟨w.heap.size, o, none⟩) (by go_size); clear zzb1
  rw [H.out]
  go_wp2
  go_returns
  exact ⟨rfl, (by repeat' (first | (with_reducible exact Below.refl _ _) | (with_reducible assumption) | (with_reducible refine below_drewN ?_ _) | (with_reducible refine Below.drew ?_) | (with_reducible refine Below.alloc ?_ ?_ _) | (with_reducible refine Below.setCell ?_ ?_ _) | (with_reducible refine Below.trans ?_ (Below.mono (by with_reducible assumption) ?_)) | go_size | (dsimp only; omega)))⟩
set_option maxHeartbeats 2000000 in
theorem MatrixText_yes (p q r s : Int) (w : World) (h : isM p q r s = true) (HT : Hid (Lib.TabBelow Tryz.prog w.heap.size w "internal/strconv.uint64pow10" .u64 Lib.pow10Tab)) :
    Calls Tryz.prog 42 #[.agg #[.int .i64 p, .int .i64 q, .int .i64 r, .int .i64 s]] w fun e w' => e = .returned (.tuple #[.string ⟨(joinT [p, q, r, s] 44).toArray⟩, .int .i64 0]) ∧ Below w.heap.size w w' := by
  have HE : Hid (∀ z ∈ [p, q, r, s], -1000000000 ≤ z ∧ z ≤ 1000000000) := by
    apply Lib.hid
    have hF := isM_iff.mp h
    intro z hz
    simp only [List.mem_cons, List.not_mem_nil, or_false] at hz
    rcases hz with rfl | rfl | rfl | rfl <;> omega
  have H := Lib.hid h
  clear h
  go_enter Tryz.func42, Tryz.ntmps42
  go_wp2_with fail
  refine (IsMatrix_c _ _ _ _ _).mono ?_
  rintro e w1 ⟨rfl, b1⟩
  have zzb1 := b1.size; (try simp at zzb1); have zb1_0 : w.heap.size < w1.heap.size := (by omega); have kcb1_0 : ∀ o, w1.cell? ⟨w.heap.size, o, none⟩ = _ := fun o => b1.cell (p := ⟨w.heap.size, o, none⟩) (by go_size); have kfb1_0 : ∀ o, w1.frozen? ⟨w.heap.size, o, none⟩ = _ := fun o => b1.frozen (p := ⟨w.heap.size, o, none⟩) (by go_size); clear zzb1
  rw [H.out]
  have hB1 : Below w.heap.size w w1 := (by repeat' (first | (with_reducible exact Below.refl _ _) | (with_reducible assumption) | (with_reducible refine below_drewN ?_ _) | (with_reducible refine Below.drew ?_) | (with_reducible refine Below.alloc ?_ ?_ _) | (with_reducible refine Below.setCell ?_ ?_ _) | (with_reducible refine Below.trans ?_ (Below.mono (by with_reducible assumption) ?_)) | go_size | (dsimp only; omega)))
  have HR : Hid (∀ k, k < ([p, q, r, s] : List Int).length → w1.cell? ⟨w.heap.size, 0 + k, none⟩ = some (.int .i64 (([p, q, r, s] : List Int).getD k 0))) := by
    apply Lib.hid
    intro k hk
    have hk' : k < 4 := hk
    rw [kcb1_0]
    match k, hk' with
    | 0, _ => go_simp
    | 1, _ => go_simp
    | 2, _ => go_simp
    | 3, _ => go_simp
  go_wp2_with fail
  refine (joined_c w.heap.size 4 4 [p, q, r, s] 44 _ (by omega) HR (Lib.hid rfl) (by omega) (by omega) HE (Lib.hid (tab_at HT.out hB1 (by omega)))).mono ?_
  rintro e w2 ⟨rfl, b2⟩
  go_wp2
  go_returns
  exact ⟨rfl, (by repeat' (first | (with_reducible exact Below.refl _ _) | (with_reducible assumption) | (with_reducible refine below_drewN ?_ _) | (with_reducible refine Below.drew ?_) | (with_reducible refine Below.alloc ?_ ?_ _) | (with_reducible refine Below.setCell ?_ ?_ _) | (with_reducible refine Below.trans ?_ (Below.mono (by with_reducible assumption) ?_)) | go_size | (dsimp only; omega)))⟩
end Go.Proofs.YtlkhhpckgcdeeaaGreatDoor
