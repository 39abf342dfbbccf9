/- ParseFraction, ParseMatrix: the reference's walks. -/
import Derived.Test.YtagjgpbcpjcceaaDoorTF
import Derived.Test.YtagjgpbcpjcceaaDoorTC
import Derived.Deep.RegionHeld3
namespace Go.Proofs.YtagjgpbcpjcceaaDoor
open Go.RowKit
set_option linter.unusedVariables false
set_option linter.unusedSimpArgs false
/-- what a text reads as -/
noncomputable def readF (l : List UInt8) : Bool := okP (parts 47 l) && decide ((numsP (parts 47 l)).length = 2) && isF ((numsP (parts 47 l)).getD 0 0) ((numsP (parts 47 l)).getD 1 0)
noncomputable def parseF (l : List UInt8) : Value := if readF l = true then .tuple #[.agg #[.int .i64 (((numsP (parts 47 l)).getD 0 0)), .int .i64 (((numsP (parts 47 l)).getD 1 0))], .int .i64 0] else .tuple #[.agg #[.int .i64 0, .int .i64 0], .int .i64 6]
set_option maxRecDepth 100000 in
set_option maxHeartbeats 4000000 in
theorem Fread_no (s : ByteArray) (w : World) (hs : s.size ≤ 1000000000) (h : readF s.data.toList = false) :
    Calls Tryd.prog 32 #[.string s] w fun e w' => e = .returned (.tuple #[.agg #[.int .i64 0, .int .i64 0], .bool false]) ∧ Below w.heap.size w w' := by
  have KN := Lib.hid (fun w => l01Numbers_c s 47 w hs)
  have hne : numsP (parts 47 s.data.toList) ≠ [] := by
    unfold numsP
    intro e
    exact parts_ne _ _ (List.map_eq_nil_iff.mp e)
  have H := Lib.hid h
  unfold readF at h
  generalize hps : parts 47 s.data.toList = ps at *
  cases ho : okP ps
  · have HO := Lib.hid ho
    clear h ho hps hne
    go_enter Tryd.func32, Tryd.ntmps32
    go_wp2_with fail
    refine (KN.out _).mono ?_
    rintro e w1 ⟨v, rfl, -, b1⟩
    rw [HO.out]
    have zzb1 := b1.size; (try simp at zzb1); have zb1_0 : w.heap.size < w1.heap.size := (by omega); have kcb1_0 : ∀ o, w1.cell? ⟨w.heap.size, o, none⟩ = _ := fun o => b1.cell (p := ⟨w.heap.size, o, none⟩) (by go_size); have kfb1_0 : ∀ o, w1.frozen? ⟨w.heap.size, o, none⟩ = _ := fun o => b1.frozen (p := ⟨w.heap.size, o, none⟩) (by go_size); clear zzb1
    go_wp2
    exact bodyPost_ret (v := .tuple #[.agg #[.int .i64 0, .int .i64 0], .bool false]) (by simp only [results, Tryd.results32]; go_simp) rfl ⟨rfl, (by repeat' (first | (with_reducible exact Below.refl _ _) | (with_reducible assumption) | (with_reducible refine below_drewN ?_ _) | (with_reducible refine Below.drew ?_) | (with_reducible refine Below.alloc ?_ ?_ _) | (with_reducible refine Below.setCell ?_ ?_ _) | (with_reducible refine Below.trans ?_ (Below.mono (by with_reducible assumption) ?_)) | go_size | (dsimp only; omega)))⟩
  · have HO := Lib.hid ho
    by_cases hl : (numsP ps).length = 2
    · obtain ⟨a, b, hz⟩ : ∃ a b : Int, numsP ps = [a, b] := by
        match hq : numsP ps, hl with
        | [x0, x1], _ => exact ⟨x0, x1, rfl⟩
      rw [hz] at h hne
      have hf : isF a b = false := by simpa [ho] using h
      have HF := Lib.hid hf
      have HZ := Lib.hid hz
      clear h ho hps hne hl hf hz
      go_enter Tryd.func32, Tryd.ntmps32
      go_wp2_with fail
      refine (KN.out _).mono ?_
      rintro e w1 ⟨v, rfl, hv, b1⟩
      have hv2 := hv.out HO.out
      rw [HO.out]
      rw [HZ.out] at hv2
      rcases hv2 with ⟨h, _⟩ | ⟨g, cg, rfl, hg0, hg1, hg2, -⟩
      · cases h
      have HR := Lib.hid hg2
      have zzb1 := b1.size; (try simp at zzb1); have zb1_0 : w.heap.size < w1.heap.size := (by omega); have kcb1_0 : ∀ o, w1.cell? ⟨w.heap.size, o, none⟩ = _ := fun o => b1.cell (p := ⟨w.heap.size, o, none⟩) (by go_size); have kfb1_0 : ∀ o, w1.frozen? ⟨w.heap.size, o, none⟩ = _ := fun o => b1.frozen (p := ⟨w.heap.size, o, none⟩) (by go_size); clear zzb1
      have q0 : w1.cell? ⟨g, 0, none⟩ = some (.int .i64 a) := by have := HR.out 0 (by simp); simpa using this
      have q1 : w1.cell? ⟨g, 1, none⟩ = some (.int .i64 b) := by have := HR.out 1 (by simp); simpa using this
      have o0 : w1.cell? ⟨w.heap.size, 0, none⟩ = some (.int .i64 0) := by rw [kcb1_0]; go_simp
      have o1 : w1.cell? ⟨w.heap.size, 1, none⟩ = some (.int .i64 0) := by rw [kcb1_0]; go_simp
      have of : ∀ i, w1.frozen? ⟨w.heap.size, i, none⟩ = false := by intro i; rw [kfb1_0]; go_simp
      have hB1 : Below w.heap.size w w1 := (by repeat' (first | (with_reducible exact Below.refl _ _) | (with_reducible assumption) | (with_reducible refine below_drewN ?_ _) | (with_reducible refine Below.drew ?_) | (with_reducible refine Below.alloc ?_ ?_ _) | (with_reducible refine Below.setCell ?_ ?_ _) | (with_reducible refine Below.trans ?_ (Below.mono (by with_reducible assumption) ?_)) | go_size | (dsimp only; omega)))
      have hgw : w.heap.size < g := by simp at hg0; omega
      clear hg2 hv b1 kcb1_0 kfb1_0 HR
      rw [show ([a, b] : List Int).length = 2 from rfl]
      go_wp2
      go_region_held3 (fun w' => w'.cell? ⟨g, 0, none⟩ = some (.int .i64 a) ∧ w'.cell? ⟨g, 1, none⟩ = some (.int .i64 b)) (first | go_keep | (go_split_ands; refine ⟨?_, ?_⟩ <;> first | (with_reducible assumption) | (with_reducible exact keep_alloc (by with_reducible assumption) (by dsimp only; omega)) | (with_reducible exact keep_new (by with_reducible assumption)))) (fail)
      all_goals (try go_split_ands)
      all_goals (go_wp2_with fail; refine (l01Fraction_c _ _ _).mono ?_; rintro e w2 ⟨rfl, b2⟩; rw [HF.out])
      all_goals (have zzb2 := b2.size; (try simp at zzb2); have zb2_0 : w.heap.size < w2.heap.size := (by omega); have kcb2_0 : ∀ o, w2.cell? ⟨w.heap.size, o, none⟩ = _ := fun o => b2.cell (p := ⟨w.heap.size, o, none⟩) (by go_size); have kfb2_0 : ∀ o, w2.frozen? ⟨w.heap.size, o, none⟩ = _ := fun o => b2.frozen (p := ⟨w.heap.size, o, none⟩) (by go_size); clear zzb2)
      all_goals go_wp2
      all_goals exact bodyPost_ret (v := .tuple #[.agg #[.int .i64 0, .int .i64 0], .bool false]) (by simp only [results, Tryd.results32]; go_simp) rfl ⟨rfl, (by repeat' (first | (with_reducible exact Below.refl _ _) | (with_reducible assumption) | (with_reducible refine below_drewN ?_ _) | (with_reducible refine Below.drew ?_) | (with_reducible refine Below.alloc ?_ ?_ _) | (with_reducible refine Below.setCell ?_ ?_ _) | (with_reducible refine Below.trans ?_ (Below.mono (by with_reducible assumption) ?_)) | go_size | (dsimp only; omega)))⟩
    · have hl' : ¬ (((numsP ps).length : Int) = 2) := by omega
      have hl2 : (((numsP ps).length : Int) == 2) = false := by simpa using hl'
      have hl3 : (((numsP ps).length : Int) != 2) = true := by simpa using hl'
      clear h ho hps hl
      go_enter Tryd.func32, Tryd.ntmps32
      go_wp2_with fail
      refine (KN.out _).mono ?_
      rintro e w1 ⟨v, rfl, hv, b1⟩
      have hv2 := hv.out HO.out
      rw [HO.out]
      rcases hv2 with ⟨h, _⟩ | ⟨g, cg, rfl, hg0, hg1, hg2, -⟩
      · exact absurd h hne
      clear hg2 hv
      have zzb1 := b1.size; (try simp at zzb1); have zb1_0 : w.heap.size < w1.heap.size := (by omega); have kcb1_0 : ∀ o, w1.cell? ⟨w.heap.size, o, none⟩ = _ := fun o => b1.cell (p := ⟨w.heap.size, o, none⟩) (by go_size); have kfb1_0 : ∀ o, w1.frozen? ⟨w.heap.size, o, none⟩ = _ := fun o => b1.frozen (p := ⟨w.heap.size, o, none⟩) (by go_size); clear zzb1
      go_wp2
      exact bodyPost_ret (v := .tuple #[.agg #[.int .i64 0, .int .i64 0], .bool false]) (by simp only [results, Tryd.results32]; go_simp) rfl ⟨rfl, (by repeat' (first | (with_reducible exact Below.refl _ _) | (with_reducible assumption) | (with_reducible refine below_drewN ?_ _) | (with_reducible refine Below.drew ?_) | (with_reducible refine Below.alloc ?_ ?_ _) | (with_reducible refine Below.setCell ?_ ?_ _) | (with_reducible refine Below.trans ?_ (Below.mono (by with_reducible assumption) ?_)) | go_size | (dsimp only; omega)))⟩
set_option maxRecDepth 100000 in
set_option maxHeartbeats 4000000 in
theorem Fread_yes (s : ByteArray) (a b : Int) (w : World) (hs : s.size ≤ 1000000000) (ho : okP (parts 47 s.data.toList) = true) (hz : numsP (parts 47 s.data.toList) = [a, b]) (hf : isF a b = true) :
    Calls Tryd.prog 32 #[.string s] w fun e w' => e = .returned (.tuple #[.agg #[.int .i64 a, .int .i64 b], .bool true]) ∧ Below w.heap.size w w' := by
  have KN := Lib.hid (fun w => l01Numbers_c s 47 w hs)
  have HO := Lib.hid ho
  have HZ := Lib.hid hz
  have HF := Lib.hid hf
  clear ho hz hf
  go_enter Tryd.func32, Tryd.ntmps32
  go_wp2_with fail
  refine (KN.out _).mono ?_
  rintro e w1 ⟨v, rfl, hv, b1⟩
  have hv2 := hv.out HO.out
  rw [HO.out]
  rw [HZ.out] at hv2
  rcases hv2 with ⟨h, _⟩ | ⟨g, cg, rfl, hg0, hg1, hg2, -⟩
  · cases h
  · have HR := Lib.hid hg2
    have zzb1 := b1.size; (try simp at zzb1); have zb1_0 : w.heap.size < w1.heap.size := (by omega); have kcb1_0 : ∀ o, w1.cell? ⟨w.heap.size, o, none⟩ = _ := fun o => b1.cell (p := ⟨w.heap.size, o, none⟩) (by go_size); have kfb1_0 : ∀ o, w1.frozen? ⟨w.heap.size, o, none⟩ = _ := fun o => b1.frozen (p := ⟨w.heap.size, o, none⟩) (by go_size); clear zzb1
    have q0 : w1.cell? ⟨g, 0, none⟩ = some (.int .i64 a) := by have := HR.out 0 (by simp); simpa using this
    have q1 : w1.cell? ⟨g, 1, none⟩ = some (.int .i64 b) := by have := HR.out 1 (by simp); simpa using this
    have o0 : w1.cell? ⟨w.heap.size, 0, none⟩ = some (.int .i64 0) := by rw [kcb1_0]; go_simp
    have o1 : w1.cell? ⟨w.heap.size, 1, none⟩ = some (.int .i64 0) := by rw [kcb1_0]; go_simp
    have of : ∀ i, w1.frozen? ⟨w.heap.size, i, none⟩ = false := by intro i; rw [kfb1_0]; go_simp
    have hB1 : Below w.heap.size w w1 := (by repeat' (first | (with_reducible exact Below.refl _ _) | (with_reducible assumption) | (with_reducible refine below_drewN ?_ _) | (with_reducible refine Below.drew ?_) | (with_reducible refine Below.alloc ?_ ?_ _) | (with_reducible refine Below.setCell ?_ ?_ _) | (with_reducible refine Below.trans ?_ (Below.mono (by with_reducible assumption) ?_)) | go_size | (dsimp only; omega)))
    have hgw : w.heap.size < g := by simp at hg0; omega
    clear hg2 hv b1 kcb1_0 kfb1_0 HR
    rw [show ([a, b] : List Int).length = 2 from rfl]
    go_wp2
    go_region_held3 (fun w' => w'.cell? ⟨g, 0, none⟩ = some (.int .i64 a) ∧ w'.cell? ⟨g, 1, none⟩ = some (.int .i64 b)) (first | go_keep | (go_split_ands; refine ⟨?_, ?_⟩ <;> first | (with_reducible assumption) | (with_reducible exact keep_alloc (by with_reducible assumption) (by dsimp only; omega)) | (with_reducible exact keep_new (by with_reducible assumption)))) (fail)
    all_goals (try go_split_ands)
    all_goals (go_wp2_with fail; refine (l01Fraction_c _ _ _).mono ?_; rintro e w2 ⟨rfl, b2⟩; rw [HF.out])
    all_goals (have zzb2 := b2.size; (try simp at zzb2); have zb2_w0 : w.heap.size < w2.heap.size := (by omega); have kcb2_w0 : ∀ o, w2.cell? ⟨w.heap.size, o, none⟩ = _ := fun o => b2.cell (p := ⟨w.heap.size, o, none⟩) (by go_size); have kfb2_w0 : ∀ o, w2.frozen? ⟨w.heap.size, o, none⟩ = _ := fun o => b2.frozen (p := ⟨w.heap.size, o, none⟩) (by go_size); have zb2_w10 : w1.heap.size < w2.heap.size := (by omega); have kcb2_w10 : ∀ o, w2.cell? ⟨w1.heap.size, o, none⟩ = _ := fun o => b2.cell (p := ⟨w1.heap.size, o, none⟩) (by go_size); have kfb2_w10 : ∀ o, w2.frozen? ⟨w1.heap.size, o, none⟩ = _ := fun o => b2.frozen (p := ⟨w1.heap.size, o, none⟩) (by go_size); clear zzb2)
    all_goals go_wp2
    all_goals exact bodyPost_ret (v := .tuple #[.agg #[.int .i64 a, .int .i64 b], .bool true]) (by simp only [results, Tryd.results32]; go_simp) rfl ⟨rfl, (by repeat' (first | (with_reducible exact Below.refl _ _) | (with_reducible assumption) | (with_reducible refine below_drewN ?_ _) | (with_reducible refine Below.drew ?_) | (with_reducible refine Below.alloc ?_ ?_ _) | (with_reducible refine Below.setCell ?_ ?_ _) | (with_reducible refine Below.trans ?_ (Below.mono (by with_reducible assumption) ?_)) | go_size | (dsimp only; omega)))⟩
/-- what a text reads as -/
noncomputable def readM (l : List UInt8) : Bool := okP (parts 44 l) && decide ((numsP (parts 44 l)).length = 4) && isM ((numsP (parts 44 l)).getD 0 0) ((numsP (parts 44 l)).getD 1 0) ((numsP (parts 44 l)).getD 2 0) ((numsP (parts 44 l)).getD 3 0)
noncomputable def parseM (l : List UInt8) : Value := if readM l = true then .tuple #[.agg #[.int .i64 (((numsP (parts 44 l)).getD 0 0)), .int .i64 (((numsP (parts 44 l)).getD 1 0)), .int .i64 (((numsP (parts 44 l)).getD 2 0)), .int .i64 (((numsP (parts 44 l)).getD 3 0))], .int .i64 0] else .tuple #[.agg #[.int .i64 0, .int .i64 0, .int .i64 0, .int .i64 0], .int .i64 6]
set_option maxRecDepth 100000 in
set_option maxHeartbeats 4000000 in
theorem Mread_no (s : ByteArray) (w : World) (hs : s.size ≤ 1000000000) (h : readM s.data.toList = false) :
    Calls Tryd.prog 34 #[.string s] w fun e w' => e = .returned (.tuple #[.agg #[.int .i64 0, .int .i64 0, .int .i64 0, .int .i64 0], .bool false]) ∧ Below w.heap.size w w' := by
  have KN := Lib.hid (fun w => l01Numbers_c s 44 w hs)
  have hne : numsP (parts 44 s.data.toList) ≠ [] := by
    unfold numsP
    intro e
    exact parts_ne _ _ (List.map_eq_nil_iff.mp e)
  have H := Lib.hid h
  unfold readM at h
  generalize hps : parts 44 s.data.toList = ps at *
  cases ho : okP ps
  · have HO := Lib.hid ho
    clear h ho hps hne
    go_enter Tryd.func34, Tryd.ntmps34
    go_wp2_with fail
    refine (KN.out _).mono ?_
    rintro e w1 ⟨v, rfl, -, b1⟩
    rw [HO.out]
    have zzb1 := b1.size; (try simp at zzb1); have zb1_0 : w.heap.size < w1.heap.size := (by omega); have kcb1_0 : ∀ o, w1.cell? ⟨w.heap.size, o, none⟩ = _ := fun o => b1.cell (p := ⟨w.heap.size, o, none⟩) (by go_size); have kfb1_0 : ∀ o, w1.frozen? ⟨w.heap.size, o, none⟩ = _ := fun o => b1.frozen (p := ⟨w.heap.size, o, none⟩) (by go_size); clear zzb1
    go_wp2
    exact bodyPost_ret (v := .tuple #[.agg #[.int .i64 0, .int .i64 0, .int .i64 0, .int .i64 0], .bool false]) (by simp only [results, Tryd.results34]; go_simp) rfl ⟨rfl, (by repeat' (first | (with_reducible exact Below.refl _ _) | (with_reducible assumption) | (with_reducible refine below_drewN ?_ _) | (with_reducible refine Below.drew ?_) | (with_reducible refine Below.alloc ?_ ?_ _) | (with_reducible refine Below.setCell ?_ ?_ _) | (with_reducible refine Below.trans ?_ (Below.mono (by with_reducible assumption) ?_)) | go_size | (dsimp only; omega)))⟩
  · have HO := Lib.hid ho
    by_cases hl : (numsP ps).length = 4
    · obtain ⟨a, b, c, d, hz⟩ : ∃ a b c d : Int, numsP ps = [a, b, c, d] := by
        match hq : numsP ps, hl with
        | [x0, x1, x2, x3], _ => exact ⟨x0, x1, x2, x3, rfl⟩
      rw [hz] at h hne
      have hf : isM a b c d = false := by simpa [ho] using h
      have HF := Lib.hid hf
      have HZ := Lib.hid hz
      clear h ho hps hne hl hf hz
      go_enter Tryd.func34, Tryd.ntmps34
      go_wp2_with fail
      refine (KN.out _).mono ?_
      rintro e w1 ⟨v, rfl, hv, b1⟩
      have hv2 := hv.out HO.out
      rw [HO.out]
      rw [HZ.out] at hv2
      rcases hv2 with ⟨h, _⟩ | ⟨g, cg, rfl, hg0, hg1, hg2, -⟩
      · cases h
      have HR := Lib.hid hg2
      have zzb1 := b1.size; (try simp at zzb1); have zb1_0 : w.heap.size < w1.heap.size := (by omega); have kcb1_0 : ∀ o, w1.cell? ⟨w.heap.size, o, none⟩ = _ := fun o => b1.cell (p := ⟨w.heap.size, o, none⟩) (by go_size); have kfb1_0 : ∀ o, w1.frozen? ⟨w.heap.size, o, none⟩ = _ := fun o => b1.frozen (p := ⟨w.heap.size, o, none⟩) (by go_size); clear zzb1
      have q0 : w1.cell? ⟨g, 0, none⟩ = some (.int .i64 a) := by have := HR.out 0 (by simp); simpa using this
      have q1 : w1.cell? ⟨g, 1, none⟩ = some (.int .i64 b) := by have := HR.out 1 (by simp); simpa using this
      have q2 : w1.cell? ⟨g, 2, none⟩ = some (.int .i64 c) := by have := HR.out 2 (by simp); simpa using this
      have q3 : w1.cell? ⟨g, 3, none⟩ = some (.int .i64 d) := by have := HR.out 3 (by simp); simpa using this
      have o0 : w1.cell? ⟨w.heap.size, 0, none⟩ = some (.int .i64 0) := by rw [kcb1_0]; go_simp
      have o1 : w1.cell? ⟨w.heap.size, 1, none⟩ = some (.int .i64 0) := by rw [kcb1_0]; go_simp
      have o2 : w1.cell? ⟨w.heap.size, 2, none⟩ = some (.int .i64 0) := by rw [kcb1_0]; go_simp
      have o3 : w1.cell? ⟨w.heap.size, 3, none⟩ = some (.int .i64 0) := by rw [kcb1_0]; go_simp
      have of : ∀ i, w1.frozen? ⟨w.heap.size, i, none⟩ = false := by intro i; rw [kfb1_0]; go_simp
      have hB1 : Below w.heap.size w w1 := (by repeat' (first | (with_reducible exact Below.refl _ _) | (with_reducible assumption) | (with_reducible refine below_drewN ?_ _) | (with_reducible refine Below.drew ?_) | (with_reducible refine Below.alloc ?_ ?_ _) | (with_reducible refine Below.setCell ?_ ?_ _) | (with_reducible refine Below.trans ?_ (Below.mono (by with_reducible assumption) ?_)) | go_size | (dsimp only; omega)))
      have hgw : w.heap.size < g := by simp at hg0; omega
      clear hg2 hv b1 kcb1_0 kfb1_0 HR
      rw [show ([a, b, c, d] : List Int).length = 4 from rfl]
      go_wp2
      go_region_held3 (fun w' => w'.cell? ⟨g, 0, none⟩ = some (.int .i64 a) ∧ w'.cell? ⟨g, 1, none⟩ = some (.int .i64 b) ∧ w'.cell? ⟨g, 2, none⟩ = some (.int .i64 c) ∧ w'.cell? ⟨g, 3, none⟩ = some (.int .i64 d)) (first | go_keep | (go_split_ands; refine ⟨?_, ?_, ?_, ?_⟩ <;> first | (with_reducible assumption) | (with_reducible exact keep_alloc (by with_reducible assumption) (by dsimp only; omega)) | (with_reducible exact keep_new (by with_reducible assumption)))) (fail)
      all_goals (try go_split_ands)
      all_goals (go_wp2_with fail; refine (l01Is_c _ _ _ _ _).mono ?_; rintro e w2 ⟨rfl, b2⟩; rw [HF.out])
      all_goals (have zzb2 := b2.size; (try simp at zzb2); have zb2_0 : w.heap.size < w2.heap.size := (by omega); have kcb2_0 : ∀ o, w2.cell? ⟨w.heap.size, o, none⟩ = _ := fun o => b2.cell (p := ⟨w.heap.size, o, none⟩) (by go_size); have kfb2_0 : ∀ o, w2.frozen? ⟨w.heap.size, o, none⟩ = _ := fun o => b2.frozen (p := ⟨w.heap.size, o, none⟩) (by go_size); clear zzb2)
      all_goals go_wp2
      all_goals exact bodyPost_ret (v := .tuple #[.agg #[.int .i64 0, .int .i64 0, .int .i64 0, .int .i64 0], .bool false]) (by simp only [results, Tryd.results34]; go_simp) rfl ⟨rfl, (by repeat' (first | (with_reducible exact Below.refl _ _) | (with_reducible assumption) | (with_reducible refine below_drewN ?_ _) | (with_reducible refine Below.drew ?_) | (with_reducible refine Below.alloc ?_ ?_ _) | (with_reducible refine Below.setCell ?_ ?_ _) | (with_reducible refine Below.trans ?_ (Below.mono (by with_reducible assumption) ?_)) | go_size | (dsimp only; omega)))⟩
    · have hl' : ¬ (((numsP ps).length : Int) = 4) := by omega
      have hl2 : (((numsP ps).length : Int) == 4) = false := by simpa using hl'
      have hl3 : (((numsP ps).length : Int) != 4) = true := by simpa using hl'
      clear h ho hps hl
      go_enter Tryd.func34, Tryd.ntmps34
      go_wp2_with fail
      refine (KN.out _).mono ?_
      rintro e w1 ⟨v, rfl, hv, b1⟩
      have hv2 := hv.out HO.out
      rw [HO.out]
      rcases hv2 with ⟨h, _⟩ | ⟨g, cg, rfl, hg0, hg1, hg2, -⟩
      · exact absurd h hne
      clear hg2 hv
      have zzb1 := b1.size; (try simp at zzb1); have zb1_0 : w.heap.size < w1.heap.size := (by omega); have kcb1_0 : ∀ o, w1.cell? ⟨w.heap.size, o, none⟩ = _ := fun o => b1.cell (p := ⟨w.heap.size, o, none⟩) (by go_size); have kfb1_0 : ∀ o, w1.frozen? ⟨w.heap.size, o, none⟩ = _ := fun o => b1.frozen (p := ⟨w.heap.size, o, none⟩) (by go_size); clear zzb1
      go_wp2
      exact bodyPost_ret (v := .tuple #[.agg #[.int .i64 0, .int .i64 0, .int .i64 0, .int .i64 0], .bool false]) (by simp only [results, Tryd.results34]; go_simp) rfl ⟨rfl, (by repeat' (first | (with_reducible exact Below.refl _ _) | (with_reducible assumption) | (with_reducible refine below_drewN ?_ _) | (with_reducible refine Below.drew ?_) | (with_reducible refine Below.alloc ?_ ?_ _) | (with_reducible refine Below.setCell ?_ ?_ _) | (with_reducible refine Below.trans ?_ (Below.mono (by with_reducible assumption) ?_)) | go_size | (dsimp only; omega)))⟩
set_option maxRecDepth 100000 in
set_option maxHeartbeats 4000000 in
theorem Mread_yes (s : ByteArray) (a b c d : Int) (w : World) (hs : s.size ≤ 1000000000) (ho : okP (parts 44 s.data.toList) = true) (hz : numsP (parts 44 s.data.toList) = [a, b, c, d]) (hf : isM a b c d = true) :
    Calls Tryd.prog 34 #[.string s] w fun e w' => e = .returned (.tuple #[.agg #[.int .i64 a, .int .i64 b, .int .i64 c, .int .i64 d], .bool true]) ∧ Below w.heap.size w w' := by
  have KN := Lib.hid (fun w => l01Numbers_c s 44 w hs)
  have HO := Lib.hid ho
  have HZ := Lib.hid hz
  have HF := Lib.hid hf
  clear ho hz hf
  go_enter Tryd.func34, Tryd.ntmps34
  go_wp2_with fail
  refine (KN.out _).mono ?_
  rintro e w1 ⟨v, rfl, hv, b1⟩
  have hv2 := hv.out HO.out
  rw [HO.out]
  rw [HZ.out] at hv2
  rcases hv2 with ⟨h, _⟩ | ⟨g, cg, rfl, hg0, hg1, hg2, -⟩
  · cases h
  · have HR := Lib.hid hg2
    have zzb1 := b1.size; (try simp at zzb1); have zb1_0 : w.heap.size < w1.heap.size := (by omega); have kcb1_0 : ∀ o, w1.cell? ⟨w.heap.size, o, none⟩ = _ := fun o => b1.cell (p := ⟨w.heap.size, o, none⟩) (by go_size); have kfb1_0 : ∀ o, w1.frozen? ⟨w.heap.size, o, none⟩ = _ := fun o => b1.frozen (p := ⟨w.heap.size, o, none⟩) (by go_size); clear zzb1
    have q0 : w1.cell? ⟨g, 0, none⟩ = some (.int .i64 a) := by have := HR.out 0 (by simp); simpa using this
    have q1 : w1.cell? ⟨g, 1, none⟩ = some (.int .i64 b) := by have := HR.out 1 (by simp); simpa using this
    have q2 : w1.cell? ⟨g, 2, none⟩ = some (.int .i64 c) := by have := HR.out 2 (by simp); simpa using this
    have q3 : w1.cell? ⟨g, 3, none⟩ = some (.int .i64 d) := by have := HR.out 3 (by simp); simpa using this
    have o0 : w1.cell? ⟨w.heap.size, 0, none⟩ = some (.int .i64 0) := by rw [kcb1_0]; go_simp
    have o1 : w1.cell? ⟨w.heap.size, 1, none⟩ = some (.int .i64 0) := by rw [kcb1_0]; go_simp
    have o2 : w1.cell? ⟨w.heap.size, 2, none⟩ = some (.int .i64 0) := by rw [kcb1_0]; go_simp
    have o3 : w1.cell? ⟨w.heap.size, 3, none⟩ = some (.int .i64 0) := by rw [kcb1_0]; go_simp
    have of : ∀ i, w1.frozen? ⟨w.heap.size, i, none⟩ = false := by intro i; rw [kfb1_0]; go_simp
    have hB1 : Below w.heap.size w w1 := (by repeat' (first | (with_reducible exact Below.refl _ _) | (with_reducible assumption) | (with_reducible refine below_drewN ?_ _) | (with_reducible refine Below.drew ?_) | (with_reducible refine Below.alloc ?_ ?_ _) | (with_reducible refine Below.setCell ?_ ?_ _) | (with_reducible refine Below.trans ?_ (Below.mono (by with_reducible assumption) ?_)) | go_size | (dsimp only; omega)))
    have hgw : w.heap.size < g := by simp at hg0; omega
    clear hg2 hv b1 kcb1_0 kfb1_0 HR
    rw [show ([a, b, c, d] : List Int).length = 4 from rfl]
    go_wp2
    go_region_held3 (fun w' => w'.cell? ⟨g, 0, none⟩ = some (.int .i64 a) ∧ w'.cell? ⟨g, 1, none⟩ = some (.int .i64 b) ∧ w'.cell? ⟨g, 2, none⟩ = some (.int .i64 c) ∧ w'.cell? ⟨g, 3, none⟩ = some (.int .i64 d)) (first | go_keep | (go_split_ands; refine ⟨?_, ?_, ?_, ?_⟩ <;> first | (with_reducible assumption) | (with_reducible exact keep_alloc (by with_reducible assumption) (by dsimp only; omega)) | (with_reducible exact keep_new (by with_reducible assumption)))) (fail)
    all_goals (try go_split_ands)
    all_goals (go_wp2_with fail; refine (l01Is_c _ _ _ _ _).mono ?_; rintro e w2 ⟨rfl, b2⟩; rw [HF.out])
    all_goals (have zzb2 := b2.size; (try simp at zzb2); have zb2_w0 : w.heap.size < w2.heap.size := (by omega); have kcb2_w0 : ∀ o, w2.cell? ⟨w.heap.size, o, none⟩ = _ := fun o => b2.cell (p := ⟨w.heap.size, o, none⟩) (by go_size); have kfb2_w0 : ∀ o, w2.frozen? ⟨w.heap.size, o, none⟩ = _ := fun o => b2.frozen (p := ⟨w.heap.size, o, none⟩) (by go_size); have zb2_w10 : w1.heap.size < w2.heap.size := (by omega); have kcb2_w10 : ∀ o, w2.cell? ⟨w1.heap.size, o, none⟩ = _ := fun o => b2.cell (p := ⟨w1.heap.size, o, none⟩) (by go_size); have kfb2_w10 : ∀ o, w2.frozen? ⟨w1.heap.size, o, none⟩ = _ := fun o => b2.frozen (p := ⟨w1.heap.size, o, none⟩) (by go_size); clear zzb2)
    all_goals go_wp2
    all_goals exact bodyPost_ret (v := .tuple #[.agg #[.int .i64 a, .int .i64 b, .int .i64 c, .int .i64 d], .bool true]) (by simp only [results, Tryd.results34]; go_simp) rfl ⟨rfl, (by repeat' (first | (with_reducible exact Below.refl _ _) | (with_reducible assumption) | (with_reducible refine below_drewN ?_ _) | (with_reducible refine Below.drew ?_) | (with_reducible refine Below.alloc ?_ ?_ _) | (with_reducible refine Below.setCell ?_ ?_ _) | (with_reducible refine Below.trans ?_ (Below.mono (by with_reducible assumption) ?_)) | go_size | (dsimp only; omega)))⟩
theorem sParseFraction_c (s : ByteArray) (w : World) (hs : s.size ≤ 1000000000) :
    Calls Tryd.prog 17 #[.string s] w fun e w' => e = .returned (parseF s.data.toList) ∧ Below w.heap.size w w' := by
  cases h : readF s.data.toList
  · unfold parseF
    rw [if_neg (by rw [h]; simp)]
    have H := Lib.hid h
    clear h
    go_enter Tryd.func17, Tryd.ntmps17
    go_wp2_with fail
    refine (Fread_no s _ hs H.out).mono ?_
    rintro e w1 ⟨rfl, b1⟩
    have zzb1 := b1.size; (try simp at zzb1); have zb1_0 : w.heap.size < w1.heap.size := (by omega); have kcb1_0 : ∀ o, w1.cell? ⟨w.heap.size, o, none⟩ = _ := fun o => b1.cell (p := ⟨w.heap.size, o, none⟩) (by go_size); have kfb1_0 : ∀ o, w1.frozen? ⟨w.heap.size, o, none⟩ = _ := fun o => b1.frozen (p := ⟨w.heap.size, o, none⟩) (by go_size); clear zzb1
    go_wp2
    exact bodyPost_ret (v := .tuple #[.agg #[.int .i64 0, .int .i64 0], .int .i64 6]) (by simp only [results, Tryd.results17]; go_simp) rfl ⟨rfl, (by repeat' (first | (with_reducible exact Below.refl _ _) | (with_reducible assumption) | (with_reducible refine below_drewN ?_ _) | (with_reducible refine Below.drew ?_) | (with_reducible refine Below.alloc ?_ ?_ _) | (with_reducible refine Below.setCell ?_ ?_ _) | (with_reducible refine Below.trans ?_ (Below.mono (by with_reducible assumption) ?_)) | go_size | (dsimp only; omega)))⟩
  · unfold parseF
    rw [if_pos h]
    unfold readF at h
    rw [Bool.and_eq_true, Bool.and_eq_true] at h
    obtain ⟨⟨ho, hl⟩, hf⟩ := h
    have hl : (numsP (parts 47 s.data.toList)).length = 2 := by simpa using hl
    obtain ⟨a, b, hz⟩ : ∃ a b : Int, numsP (parts 47 s.data.toList) = [a, b] := by
      match hq : numsP (parts 47 s.data.toList), hl with
      | [x0, x1], _ => exact ⟨x0, x1, rfl⟩
    rw [hz] at hf ⊢
    have K := Lib.hid (fun w => Fread_yes s a b w hs ho hz hf)
    show Calls Tryd.prog 17 #[.string s] w fun e w' => e = .returned (.tuple #[.agg #[.int .i64 a, .int .i64 b], .int .i64 0]) ∧ Below w.heap.size w w'
    clear ho hl hf hz
    go_enter Tryd.func17, Tryd.ntmps17
    go_wp2_with fail
    refine (K.out _).mono ?_
    rintro e w1 ⟨rfl, b1⟩
    have zzb1 := b1.size; (try simp at zzb1); have zb1_0 : w.heap.size < w1.heap.size := (by omega); have kcb1_0 : ∀ o, w1.cell? ⟨w.heap.size, o, none⟩ = _ := fun o => b1.cell (p := ⟨w.heap.size, o, none⟩) (by go_size); have kfb1_0 : ∀ o, w1.frozen? ⟨w.heap.size, o, none⟩ = _ := fun o => b1.frozen (p := ⟨w.heap.size, o, none⟩) (by go_size); clear zzb1
    go_wp2
    exact bodyPost_ret (v := .tuple #[.agg #[.int .i64 a, .int .i64 b], .int .i64 0]) (by simp only [results, Tryd.results17]; go_simp) rfl ⟨rfl, (by repeat' (first | (with_reducible exact Below.refl _ _) | (with_reducible assumption) | (with_reducible refine below_drewN ?_ _) | (with_reducible refine Below.drew ?_) | (with_reducible refine Below.alloc ?_ ?_ _) | (with_reducible refine Below.setCell ?_ ?_ _) | (with_reducible refine Below.trans ?_ (Below.mono (by with_reducible assumption) ?_)) | go_size | (dsimp only; omega)))⟩
theorem sParseMatrix_c (s : ByteArray) (w : World) (hs : s.size ≤ 1000000000) :
    Calls Tryd.prog 19 #[.string s] w fun e w' => e = .returned (parseM s.data.toList) ∧ Below w.heap.size w w' := by
  cases h : readM s.data.toList
  · unfold parseM
    rw [if_neg (by rw [h]; simp)]
    have H := Lib.hid h
    clear h
    go_enter Tryd.func19, Tryd.ntmps19
    go_wp2_with fail
    refine (Mread_no s _ hs H.out).mono ?_
    rintro e w1 ⟨rfl, b1⟩
    have zzb1 := b1.size; (try simp at zzb1); have zb1_0 : w.heap.size < w1.heap.size := (by omega); have kcb1_0 : ∀ o, w1.cell? ⟨w.heap.size, o, none⟩ = _ := fun o => b1.cell (p := ⟨w.heap.size, o, none⟩) (by go_size); have kfb1_0 : ∀ o, w1.frozen? ⟨w.heap.size, o, none⟩ = _ := fun o => b1.frozen (p := ⟨w.heap.size, o, none⟩) (by go_size); clear zzb1
    go_wp2
    exact bodyPost_ret (v := .tuple #[.agg #[.int .i64 0, .int .i64 0, .int .i64 0, .int .i64 0], .int .i64 6]) (by simp only [results, Tryd.results19]; go_simp) rfl ⟨rfl, (by repeat' (first | (with_reducible exact Below.refl _ _) | (with_reducible assumption) | (with_reducible refine below_drewN ?_ _) | (with_reducible refine Below.drew ?_) | (with_reducible refine Below.alloc ?_ ?_ _) | (with_reducible refine Below.setCell ?_ ?_ _) | (with_reducible refine Below.trans ?_ (Below.mono (by with_reducible assumption) ?_)) | go_size | (dsimp only; omega)))⟩
  · unfold parseM
    rw [if_pos h]
    unfold readM at h
    rw [Bool.and_eq_true, Bool.and_eq_true] at h
    obtain ⟨⟨ho, hl⟩, hf⟩ := h
    have hl : (numsP (parts 44 s.data.toList)).length = 4 := by simpa using hl
    obtain ⟨a, b, c, d, hz⟩ : ∃ a b c d : Int, numsP (parts 44 s.data.toList) = [a, b, c, d] := by
      match hq : numsP (parts 44 s.data.toList), hl with
      | [x0, x1, x2, x3], _ => exact ⟨x0, x1, x2, x3, rfl⟩
    rw [hz] at hf ⊢
    have K := Lib.hid (fun w => Mread_yes s a b c d w hs ho hz hf)
    show Calls Tryd.prog 19 #[.string s] w fun e w' => e = .returned (.tuple #[.agg #[.int .i64 a, .int .i64 b, .int .i64 c, .int .i64 d], .int .i64 0]) ∧ Below w.heap.size w w'
    clear ho hl hf hz
    go_enter Tryd.func19, Tryd.ntmps19
    go_wp2_with fail
    refine (K.out _).mono ?_
    rintro e w1 ⟨rfl, b1⟩
    have zzb1 := b1.size; (try simp at zzb1); have zb1_0 : w.heap.size < w1.heap.size := (by omega); have kcb1_0 : ∀ o, w1.cell? ⟨w.heap.size, o, none⟩ = _ := fun o => b1.cell (p := ⟨w.heap.size, o, none⟩) (by go_size); have kfb1_0 : ∀ o, w1.frozen? ⟨w.heap.size, o, none⟩ = _ := fun o => b1.frozen (p := ⟨w.heap.size, o, none⟩) (by go_size); clear zzb1
    go_wp2
    exact bodyPost_ret (v := .tuple #[.agg #[.int .i64 a, .int .i64 b, .int .i64 c, .int .i64 d], .int .i64 0]) (by simp only [results, Tryd.results19]; go_simp) rfl ⟨rfl, (by repeat' (first | (with_reducible exact Below.refl _ _) | (with_reducible assumption) | (with_reducible refine below_drewN ?_ _) | (with_reducible refine Below.drew ?_) | (with_reducible refine Below.alloc ?_ ?_ _) | (with_reducible refine Below.setCell ?_ ?_ _) | (with_reducible refine Below.trans ?_ (Below.mono (by with_reducible assumption) ?_)) | go_size | (dsimp only; omega)))⟩
end Go.Proofs.YtagjgpbcpjcceaaDoor
