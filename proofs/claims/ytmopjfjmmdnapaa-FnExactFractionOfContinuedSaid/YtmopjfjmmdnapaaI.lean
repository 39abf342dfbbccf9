/- Rows of numbers: equal, marked, held. -/
import Derived.Test.YtmopjfjmmdnapaaW
namespace Go.Proofs.Ytmopjfjmmdnapaa
open Go.RowKit
set_option linter.unusedVariables false
set_option linter.unusedSimpArgs false
/-- the cells of a row of numbers -/
def RowI (w : World) (b off : Nat) (zs : List Int) : Prop := ∀ k, k < zs.length → w.cell? ⟨b, off + k, none⟩ = some (.int .i64 (zs.getD k 0))
theorem eqInt64S_nil (w : World) :
    Calls Try.prog 18 #[.slice none 0 0, .slice none 0 0] w fun e w' => e = .returned (.bool true) ∧ w = w' := by
  go_enter Try.func18, Try.ntmps18
  go_wp2
  refine wp_loop_rounds 1 ?_
  rw [rounds_succ]
  go_wp2
  go_ret
  exact ⟨rfl, rfl⟩
theorem eqInt64S_c (b1 o1 n c1 b2 o2 c2 : Nat) (zs : List Int) (w : World) (hl : zs.length = n) (hm : n ≤ 1000000000000) (h1 : RowI w b1 o1 zs) (h2 : RowI w b2 o2 zs) :
    Calls Try.prog 18 #[.slice (some ⟨b1, o1, none⟩) n c1, .slice (some ⟨b2, o2, none⟩) n c2] w fun e w' => e = .returned (.bool true) ∧ ∃ m, w' = w.drewN m := by
  have H1 := Lib.hid h1
  have H2 := Lib.hid h2
  have HL := Lib.hid hl
  clear h1 h2 hl
  go_enter Try.func18, Try.ntmps18
  go_wp2
  go_loopw [5] (fun i wr => ∃ k : Nat, k ≤ n ∧ i = .int .i64 k ∧ Hid (∃ m, wr = w.drewN m)) (fun i wr => n - (intOf i).toNat)
  case atStart => exact ⟨0, Nat.zero_le _, rfl, ⟨0, rfl⟩⟩
  case round =>
    obtain ⟨k, hk, rfl, HW⟩ := hrel
    by_cases hlt : k < n
    · have q1 : wr.cell? ⟨b1, o1 + k, none⟩ = some (.int .i64 (zs.getD k 0)) := by obtain ⟨m, rfl⟩ := HW.out; simpa using H1.out k (by rw [HL.out]; exact hlt)
      have q2 : wr.cell? ⟨b2, o2 + k, none⟩ = some (.int .i64 (zs.getD k 0)) := by obtain ⟨m, rfl⟩ := HW.out; simpa using H2.out k (by rw [HL.out]; exact hlt)
      go_wp2
      go_quiet (fail)
      go_wp2
      go_roundw
      case rel => exact ⟨k + 1, by omega, by go_num, by obtain ⟨m, rfl⟩ := HW.out; exact ⟨m + nq, by rw [World.drewN_drewN]⟩⟩
      case measure => simp [intOf]; omega
    · go_wp2
      go_ret
      exact ⟨rfl, HW.out⟩
theorem mark_step {wr : World} {b o n k : Nat} {k0 : Int} {zs : List Int} (hk : k < n) (h : ∀ j, j < n → wr.cell? ⟨b, o + j, none⟩ = some (.int .i64 (if j < k then k0 + (j : Int) else zs.getD j 0))) :
    ∀ j, j < n → (wr.setCell ⟨b, o + k, none⟩ (.int .i64 (k0 + (k : Int)))).cell? ⟨b, o + j, none⟩ = some (.int .i64 (if j < k + 1 then k0 + (j : Int) else zs.getD j 0)) := by
  intro j hj
  have hk' := h k hk
  have hj' := h j hj
  by_cases e : j = k
  · subst e
    rw [if_pos (by omega)]
    go_simp
  · have hne : ¬ o + j = o + k := by omega
    have hne' : ¬ o + k = o + j := by omega
    have hif : (if j < k + 1 then k0 + (j : Int) else zs.getD j 0) = (if j < k then k0 + (j : Int) else zs.getD j 0) := by
      by_cases c : j < k
      · rw [if_pos c, if_pos (by omega)]
      · rw [if_neg c, if_neg (by omega)]
    rw [hif, ← hj']
    go_simp
theorem markInt64S_c (b o n c : Nat) (k0 : Int) (zs : List Int) (w : World) (hl : zs.length = n) (hm : n ≤ 1000000000000) (hk0 : 0 ≤ k0) (hk1 : k0 ≤ 1000000000000) (h : RowI w b o zs) (hf : ∀ i, w.frozen? ⟨b, i, none⟩ = false) :
    Calls Try.prog 19 #[.slice (some ⟨b, o, none⟩) n c, .int .i64 k0] w fun e w' => e = .returned (.int .i64 (k0 + (n : Int))) ∧ (∀ j, j < n → w'.cell? ⟨b, o + j, none⟩ = some (.int .i64 (k0 + (j : Int)))) ∧ (∀ i, w'.frozen? ⟨b, i, none⟩ = false) ∧ (∀ a : Addr, a.block ≠ b → w'.cell? a = w.cell? a ∧ w'.frozen? a = w.frozen? a) ∧ w'.heap.size = w.heap.size ∧ (∀ B, B ≤ b → Below B w w') := by
  have H := Lib.hid h
  have HL := Lib.hid hl
  have HF := Lib.hid hf
  clear h hl hf
  go_enter Try.func19, Try.ntmps19
  go_wp2
  go_loopw [1, 5] (fun x i wr => ∃ k : Nat, k ≤ n ∧ i = .int .i64 k ∧ x = .int .i64 (k0 + (k : Int)) ∧ Hid (∀ j, j < n → wr.cell? ⟨b, o + j, none⟩ = some (.int .i64 (if j < k then k0 + (j : Int) else zs.getD j 0))) ∧ Hid (∀ i, wr.frozen? ⟨b, i, none⟩ = false) ∧ Hid (∀ a : Addr, a.block ≠ b → wr.cell? a = w.cell? a ∧ wr.frozen? a = w.frozen? a) ∧ Hid (wr.heap.size = w.heap.size) ∧ Hid (∀ B, B ≤ b → Below B w wr)) (fun x i wr => n - (intOf i).toNat)
  case atStart => exact ⟨0, Nat.zero_le _, rfl, by simp, (by intro j hj; rw [if_neg (by omega)]; exact H.out j (by rw [HL.out]; exact hj)), HF.out, (fun a _ => ⟨rfl, rfl⟩), (rfl : w.heap.size = w.heap.size), (fun B _ => Below.refl _ _)⟩
  case round =>
    obtain ⟨k, hk, rfl, rfl, HC, HF', HO, HS, HB⟩ := hrel
    by_cases hlt : k < n
    · have q1 := HC.out k hlt
      have q2 := HF'.out (o + k)
      go_wp2

      go_roundw
      case rel => exact ⟨k + 1, by omega, by go_num, by first | go_num | (simp; omega), mark_step hlt HC.out, (by intro i; have := HF'.out i; go_simp), (by intro a ha; have := HO.out a ha; exact ⟨by rw [World.cell?_of_block (Below.heap_setCell wr _ _ a.block ha)]; exact this.1, by rw [World.frozen?_of_block (Below.heap_setCell wr _ _ a.block ha)]; exact this.2⟩), (by have := HS.out; show (World.setCell _ _ _).heap.size = _; simpa using this), (fun B hB => Below.setCell (HB.out B hB) hB _)⟩
      case measure => simp [intOf]; omega
    · have e : k = n := by omega
      subst e
      go_wp2
      go_ret
      exact ⟨rfl, (by intro j hj; have := HC.out j hj; rw [if_pos hj] at this; exact this), HF'.out, HO.out, HS.out, HB.out⟩
theorem heldInt64S_c (b o n c : Nat) (k0 : Int) (w : World) (hm : n ≤ 1000000000000) (hk0 : 0 ≤ k0) (hk1 : k0 ≤ 1000000000000) (h : ∀ k, k < n → w.cell? ⟨b, o + k, none⟩ = some (.int .i64 (k0 + (k : Int)))) :
    Calls Try.prog 20 #[.slice (some ⟨b, o, none⟩) n c, .int .i64 k0] w fun e w' => e = .returned (.int .i64 (k0 + (n : Int))) ∧ w = w' := by
  have H := Lib.hid h
  clear h
  go_enter Try.func20, Try.ntmps20
  go_wp2
  go_loop [1, 5] (fun x i => ∃ k : Nat, k ≤ n ∧ i = .int .i64 k ∧ x = .int .i64 (k0 + (k : Int))) (fun x i => n - (intOf i).toNat)
  case atStart => exact ⟨0, Nat.zero_le _, rfl, by simp⟩
  case round =>
    obtain ⟨k, hk, rfl, rfl⟩ := hrel
    by_cases hlt : k < n
    · have q1 := H.out k hlt
      go_wp2
      all_goals exact ⟨⟨k + 1, by omega, by go_num, by first | go_num | (simp; omega)⟩, by simp [intOf]; omega⟩
    · have e : k = n := by omega
      subst e
      go_wp2
      go_ret
      exact ⟨rfl, rfl⟩
end Go.Proofs.Ytmopjfjmmdnapaa
