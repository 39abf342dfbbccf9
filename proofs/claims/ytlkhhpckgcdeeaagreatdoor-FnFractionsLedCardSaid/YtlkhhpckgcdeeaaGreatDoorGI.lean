/- Rows of numbers that are alike; bytes that came in; how many they are. -/
import Derived.Test.YtlkhhpckgcdeeaaGreatDoorAX
import Derived.Test.YtlkhhpckgcdeeaaGreatDoorAD
import Derived.Test.YtlkhhpckgcdeeaaGreatDoorGD
namespace Go.Proofs.YtlkhhpckgcdeeaaGreatDoor
open Go.RowKit
set_option linter.unusedVariables false
set_option linter.unusedSimpArgs false
theorem eqInt64S_nil (w : World) :
    Calls Tryz.prog 27 #[.slice none 0 0, .slice none 0 0] w fun e w' => e = .returned (.bool true) ∧ w = w' := by
  go_enter Tryz.func27, Tryz.ntmps27
  go_wp2
  refine wp_loop_rounds 1 ?_
  rw [rounds_succ]
  go_wp2
  go_ret
  exact ⟨rfl, rfl⟩
theorem likeInts_c (b1 o1 n c1 b2 o2 c2 : Nat) (zs : List Int) (w : World) (hl : zs.length = n) (hm : n ≤ 1000000000000) (h1 : RowI w b1 o1 zs) (h2 : RowI w b2 o2 zs) :
    Calls Tryz.prog 27 #[.slice (some ⟨b1, o1, none⟩) n c1, .slice (some ⟨b2, o2, none⟩) n c2] w fun e w' => e = .returned (.bool true) ∧ ∃ m, w' = w.drewN m := by
  have H1 := Lib.hid h1
  have H2 := Lib.hid h2
  have HL := Lib.hid hl
  clear h1 h2 hl
  go_enter Tryz.func27, Tryz.ntmps27
  go_wp2
  go_loopw [5] (fun i wr => ∃ k : Nat, k ≤ n ∧ i = .int .i64 k ∧ Hid (∃ m, wr = w.drewN m)) (fun i wr => n - (intOf i).toNat)
  case atStart => exact ⟨0, Nat.zero_le _, rfl, ⟨0, rfl⟩⟩
  case round =>
    obtain ⟨k, hk, rfl, HW⟩ := hrel
    by_cases hlt : k < n
    · have q1 : wr.cell? ⟨b1, o1 + k, none⟩ = some (.int .i64 (zs.getD k 0)) := by obtain ⟨m, rfl⟩ := HW.out; simpa using H1.out k (by rw [HL.out]; exact hlt)
      have q2 : wr.cell? ⟨b2, o2 + k, none⟩ = some (.int .i64 (zs.getD k 0)) := by obtain ⟨m, rfl⟩ := HW.out; simpa using H2.out k (by rw [HL.out]; exact hlt)
      go_wp2
      go_quiet (fail)
      go_wp2
      go_roundw
      case rel => exact ⟨k + 1, by omega, by go_num, by obtain ⟨m, rfl⟩ := HW.out; exact ⟨m + nq, by rw [World.drewN_drewN]⟩⟩
      case measure => simp [intOf]; omega
    · go_wp2
      go_ret
      exact ⟨rfl, HW.out⟩
theorem likeI_c (v1 v2 : Value) (B1 B2 : Nat) (zs : List Int) (w : World) (hm : zs.length ≤ 1000000000000) (h1 : OwnI B1 w v1 zs) (h2 : OwnI B2 w v2 zs) :
    Calls Tryz.prog 27 #[v1, v2] w fun e w' => e = .returned (.bool true) ∧ ∃ m, w' = w.drewN m := by
  have empty : ∀ p1 c1 p2 c2, Calls Tryz.prog 27 #[.slice p1 0 c1, .slice p2 0 c2] w fun e w' => e = .returned (.bool true) ∧ ∃ m, w' = w.drewN m := by
    intro p1 c1 p2 c2
    go_enter Tryz.func27, Tryz.ntmps27
    go_wp2
    refine wp_loop_rounds 1 ?_
    rw [rounds_succ]
    go_wp2
    go_ret
    exact ⟨rfl, 0, rfl⟩
  rcases h1 with ⟨rfl, p1, c1, rfl⟩ | ⟨g1, c1, rfl, -, -, r1, -⟩
  · rcases h2 with ⟨-, p2, c2, rfl⟩ | ⟨g2, c2, rfl, -, -, r2, -⟩
    · exact empty _ _ _ _
    · exact empty _ _ _ _
  · rcases h2 with ⟨rfl, p2, c2, rfl⟩ | ⟨g2, c2, rfl, -, -, r2, -⟩
    · exact empty _ _ _ _
    · exact likeInts_c g1 0 zs.length c1 g2 0 c2 zs w rfl hm r1 r2
theorem u8_wf {b : Int} (h : (Lit.int .u8 b).wf = true) : 0 ≤ b ∧ b ≤ 255 := by
  simp only [Lit.wf, Bool.and_eq_true, decide_eq_true_eq] at h
  have e1 : IntKind.u8.min = 0 := by decide
  have e2 : IntKind.u8.max = 255 := by decide
  rw [e1, e2] at h; exact h
theorem codeV_isRow {W : World} {a : Option Addr} {len cap : Nat} {zs : List Int} (h : IsRow .u8 W a len cap zs) (hl : len ≤ 4096) : CodeV W (.slice a len cap) := by
  rcases h with ⟨rfl, rfl, rfl, rfl⟩ | ⟨x, rfl, h1, h2, h3, h4, h5⟩
  · exact ⟨_, _, _, rfl, by omega, .inl rfl⟩
  · refine ⟨_, _, _, rfl, by omega, ?_⟩
    by_cases h0 : len = 0
    · exact .inl h0
    · obtain ⟨b, o, spot⟩ := x
      have c0 := h4 0 (by omega)
      have hs : spot = none := by simpa [Addr.add] using World.cell?_spot c0
      subst hs
      have ad : ∀ j, (⟨b, o, none⟩ : Addr).add j = ⟨b, o + j, none⟩ := by
        intro j; by_cases hj : j = 0
        · subst hj; simp [Addr.add]
        · simp [Addr.add, hj]
      have hb : b < W.heap.size := by
        have := World.block_lt_of_cell? W _ c0
        rw [ad] at this; exact this
      refine .inr ⟨b, o, rfl, hb, hb, fun j hj => ⟨zs.getD j 0, ?_, ?_⟩⟩
      · have := h4 j (by omega)
        rw [ad] at this
        exact this
      · have hjz : j < zs.length := by omega
        have e : zs.getD j 0 = zs[j] := by simp [List.getD, hjz]
        rw [e]
        exact u8_wf (h5 _ (List.getElem_mem hjz))
theorem big_c (p : Option Addr) (n c : Nat) (w : World) (hn : n ≤ 140737488351232) :
    Calls Tryz.prog 5 #[.slice p n c] w fun e w' => e = .returned (.bool (decide (4096 < n))) ∧ w = w' := by
  by_cases h : 4096 < n
  · have h' : ((4096 : Int) < (n : Int)) := by omega
    go_enter Tryz.func5, Tryz.ntmps5
    go_wp2
    go_returns
    exact ⟨ret_bool (by simp [h]), rfl⟩
  · have h' : ¬ ((4096 : Int) < (n : Int)) := by omega
    go_enter Tryz.func5, Tryz.ntmps5
    go_wp2
    go_returns
    exact ⟨ret_bool (by simp [h]), rfl⟩
end Go.Proofs.YtlkhhpckgcdeeaaGreatDoor
