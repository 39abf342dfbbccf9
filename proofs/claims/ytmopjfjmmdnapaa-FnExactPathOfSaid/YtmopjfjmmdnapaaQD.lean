/- The laws of PathOf and of ParentsOf: the walks. -/
import Derived.Test.YtmopjfjmmdnapaaQC
namespace Go.Proofs.Ytmopjfjmmdnapaa
open Go.RowKit
open Plain (On)
set_option linter.unusedVariables false
set_option linter.unusedSimpArgs false
attribute [local go_sem] run_min_int4 run_max_int4
theorem tree_walk {p q : Int} (h : treeC p q = 0) : ∃ L A B C D, Plain.Walk 0 1 1 0 q p L A B C D ∧ L.length ≤ 20000 := by
  obtain ⟨hf, hp0, hp1, hq0, hq1⟩ := treeC_zero h
  have hg : Int.gcd q p = 1 := by rw [Int.gcd_comm]; exact (isF_iff.mp hf).2.2.1
  obtain ⟨L, A, B, C, D, hw, hl⟩ := Plain.walk_exists 20000 0 1 1 0 q p hq0 hp0 hg (by omega)
  exact ⟨L, A, B, C, D, hw, hl⟩
set_option maxHeartbeats 2000000 in
theorem PathOf_law (p q c : Int) (s : ByteArray) (W : World) (K1 : Hid (∀ w, Calls Try.prog 40 #[.agg #[.int .i64 p, .int .i64 q]] w fun e w' => e = .returned (.tuple #[.string s, .int .i64 c]) ∧ Below w.heap.size w w')) (K2 : Hid (∀ w, Calls Try.prog 39 #[.agg #[.int .i64 p, .int .i64 q]] w fun e w' => e = .returned (.tuple #[.string s, .int .i64 c]) ∧ Below w.heap.size w w')) :
    Calls Try.prog 11 #[.agg #[.int .i64 p, .int .i64 q]] W fun e w' => e = .returned (.bool true) ∧ Below W.heap.size W w' := by
  go_enter Try.func11, Try.ntmps11
  go_wp2_with fail
  refine (toFraction_c _ _ _).mono ?_
  rintro e w0 ⟨rfl, b0⟩
  have zzb0 := b0.size; (try simp at zzb0); have zb0_0 : W.heap.size < w0.heap.size := (by omega); have kcb0_0 : ∀ o, w0.cell? ⟨W.heap.size, o, none⟩ = _ := fun o => b0.cell (p := ⟨W.heap.size, o, none⟩) (by go_size); have kfb0_0 : ∀ o, w0.frozen? ⟨W.heap.size, o, none⟩ = _ := fun o => b0.frozen (p := ⟨W.heap.size, o, none⟩) (by go_size); clear zzb0
  go_wp2_with fail
  refine (K2.out _).mono ?_
  rintro e wa ⟨rfl, ba⟩
  have zzba := ba.size; (try simp at zzba); have zba_0 : W.heap.size < wa.heap.size := (by omega); have kcba_0 : ∀ o, wa.cell? ⟨W.heap.size, o, none⟩ = _ := fun o => ba.cell (p := ⟨W.heap.size, o, none⟩) (by go_size); have kfba_0 : ∀ o, wa.frozen? ⟨W.heap.size, o, none⟩ = _ := fun o => ba.frozen (p := ⟨W.heap.size, o, none⟩) (by go_size); clear zzba
  go_wp2_with fail
  refine (toFraction_c _ _ _).mono ?_
  rintro e w1 ⟨rfl, b1⟩
  have zzb1 := b1.size; (try simp at zzb1); have zb1_0 : W.heap.size < w1.heap.size := (by omega); have kcb1_0 : ∀ o, w1.cell? ⟨W.heap.size, o, none⟩ = _ := fun o => b1.cell (p := ⟨W.heap.size, o, none⟩) (by go_size); have kfb1_0 : ∀ o, w1.frozen? ⟨W.heap.size, o, none⟩ = _ := fun o => b1.frozen (p := ⟨W.heap.size, o, none⟩) (by go_size); clear zzb1
  go_wp2_with fail
  refine (K1.out _).mono ?_
  rintro e wb ⟨rfl, bb⟩
  go_wp2
  go_returns
  exact ⟨rfl, (by repeat' (first | (with_reducible exact Below.refl _ _) | (with_reducible assumption) | (with_reducible refine below_drewN ?_ _) | (with_reducible refine Below.drew ?_) | (with_reducible refine Below.alloc ?_ ?_ _) | (with_reducible refine Below.setCell ?_ ?_ _) | (with_reducible refine Below.trans ?_ (Below.mono (by with_reducible assumption) ?_)) | go_size | (dsimp only; omega)))⟩
theorem FnExactPathOf_w (p0 q0 : Int) (W : World) :
    Calls Try.prog 11 #[.agg #[.int .i64 p0, .int .i64 q0]] W fun e w' => e = .returned (.bool true) ∧ Below W.heap.size W w' := by
  by_cases h : treeC p0 q0 = 0
  · obtain ⟨L, A, B, C, D, hw, hl⟩ := tree_walk h
    by_cases h200 : L.length ≤ 200
    · exact PathOf_law p0 q0 0 ⟨L.toArray⟩ W (Lib.hid (fun w => by have := PathOf_yes p0 q0 A B C D L w h hw hl; rw [if_pos h200] at this; exact this)) (Lib.hid (fun w => by have := sPathOf_yes p0 q0 A B C D L w h hw hl; rw [if_pos h200] at this; exact this))
    · exact PathOf_law p0 q0 3 ⟨#[]⟩ W (Lib.hid (fun w => by have := PathOf_yes p0 q0 A B C D L w h hw hl; rw [if_neg h200] at this; exact this)) (Lib.hid (fun w => by have := sPathOf_yes p0 q0 A B C D L w h hw hl; rw [if_neg h200] at this; exact this))
  · exact PathOf_law p0 q0 _ ⟨#[]⟩ W (Lib.hid (fun w => PathOf_no _ _ _ w rfl h)) (Lib.hid (fun w => sPathOf_no _ _ _ w rfl h))
end Go.Proofs.Ytmopjfjmmdnapaa
