/- The law of MatrixOfWord. -/
import Derived.Test.YtmopjfjmmdnapaaAQ
namespace Go.Proofs.Ytmopjfjmmdnapaa
open Go.RowKit
set_option linter.unusedVariables false
set_option linter.unusedSimpArgs false
set_option maxHeartbeats 2000000 in
theorem FnExactMatrixOfWord_w (s0 : ByteArray) (h0 : s0.size ≤ 140737488351232) (W : World) :
    Calls Try.prog 12 #[.string s0] W fun e w' => e = .returned (.bool true) ∧ Below W.heap.size W w' := by
  by_cases hb : s0.size ≤ 1048576
  · have hn : ¬ (1048576 < (s0.size : Int)) := by omega
    obtain ⟨x0, x1, x2, x3, x4, hx⟩ := wordV_form s0
    have HX := Lib.hid hx
    clear hx
    go_enter Try.func12, Try.ntmps12
    go_wp2_with fail
    refine (sMatrixOfWord_c s0 _ (by omega)).mono ?_
    rintro e wa ⟨rfl, ba⟩
    rw [HX.out]
    have za := ba.size
    go_wp2_with fail
    refine (MatrixOfWord_c s0 _ (by omega)).mono ?_
    rintro e wb ⟨rfl, bb⟩
    rw [HX.out]
    have zb : W.heap.size ≤ wb.heap.size := by have := bb.size; simp at this; omega
    have zzbb := bb.size; (try simp at zzbb); have zbb_0 : wa.heap.size < wb.heap.size := (by omega); have kcbb_0 : ∀ o, wb.cell? ⟨wa.heap.size, o, none⟩ = _ := fun o => bb.cell (p := ⟨wa.heap.size, o, none⟩) (by go_size); have kfbb_0 : ∀ o, wb.frozen? ⟨wa.heap.size, o, none⟩ = _ := fun o => bb.frozen (p := ⟨wa.heap.size, o, none⟩) (by go_size); clear zzbb
    go_wp2_with fail
    refine (eqMatrix_same _ _ _ _ _).mono ?_
    rintro e w5 ⟨rfl, b5⟩
    have zzb5 := b5.size; (try simp at zzb5); clear zzb5
    go_wp2
    go_returns
    exact ⟨rfl, Below.trans (Below.trans (Below.alloc ba za _) (Below.mono bb (by simp; omega))) (Below.trans (Below.alloc (Below.refl _ _) zb _) (Below.mono b5 (by simp; omega)))⟩
  · have hn : 1048576 < (s0.size : Int) := by omega
    go_enter Try.func12, Try.ntmps12
    go_wp2
    go_returns
    exact ⟨rfl, Below.refl _ _⟩
end Go.Proofs.Ytmopjfjmmdnapaa
