/- MatrixOfRuns. -/
import Derived.Test.YtlkhhpckgcdeeaaGreatDoorAQ
import Derived.Test.YtlkhhpckgcdeeaaGreatDoorAU
namespace Go.Proofs.YtlkhhpckgcdeeaaGreatDoor
open Go.RowKit
set_option linter.unusedVariables false
set_option linter.unusedSimpArgs false
/-- a run stands well -/
def okR (zs : List Int) (i : Nat) : Prop := (0 ≤ zs.getD i 0 ∧ zs.getD i 0 ≤ 1000000000) ∧ (zs.getD i 0 = 0 → i = 0 ∧ zs.length ≠ 1)
def OkR (zs : List Int) : Prop := zs.length ≤ 100 ∧ ∀ i, i < zs.length → okR zs i
def wOk (k : Nat) (z : Int) : Bool := decide ((if k = 0 then 0 else 1) ≤ z) && decide (z ≤ 1000000000)
theorem wOk_iff {k : Nat} {z : Int} : wOk k z = true ↔ ((if k = 0 then 0 else 1) ≤ z ∧ z ≤ 1000000000) := by simp [wOk]
theorem OkR_of {zs : List Int} (hl : zs.length ≤ 100) (h1 : ¬ (zs.length = 1 ∧ zs.getD 0 0 = 0)) (h : ∀ i, i < zs.length → wOk i (zs.getD i 0) = true) : OkR zs := by
  refine ⟨hl, fun i hi => ?_⟩
  have := wOk_iff.mp (h i hi)
  by_cases hi0 : i = 0
  · subst hi0
    rw [if_pos rfl] at this
    exact ⟨this, fun e => ⟨rfl, fun e1 => h1 ⟨e1, e⟩⟩⟩
  · rw [if_neg hi0] at this
    exact ⟨by omega, fun e => by omega⟩
theorem OkR_to {zs : List Int} (h : OkR zs) : ¬ (zs.length = 1 ∧ zs.getD 0 0 = 0) ∧ ∀ i, i < zs.length → wOk i (zs.getD i 0) = true := by
  refine ⟨fun ⟨e1, e2⟩ => ((h.2 0 (by omega)).2 e2).2 e1, fun i hi => wOk_iff.mpr ?_⟩
  have := h.2 i hi
  by_cases hi0 : i = 0
  · rw [if_pos hi0]; exact this.1
  · rw [if_neg hi0]
    have h2 : zs.getD i 0 ≠ 0 := fun e => hi0 (this.2 e).1
    have := this.1
    omega
def mR (i : Nat) (z : Int) : M4 := if i % 2 = 0 then ⟨1, z, 0, 1⟩ else ⟨1, 0, z, 1⟩
def msR (zs : List Int) : List M4 := zs.mapIdx mR
theorem msR_len (zs : List Int) : (msR zs).length = zs.length := by simp [msR]
theorem msR_at (zs : List Int) (k : Nat) (h : k < zs.length) : (msR zs)[k]? = some (mR k (zs.getD k 0)) := by
  simp [msR, List.getElem?_mapIdx, List.getD, h]
theorem msR_take (zs : List Int) (k : Nat) (h : k < zs.length) : (msR zs).take (k + 1) = (msR zs).take k ++ [mR k (zs.getD k 0)] := by
  have := msR_at zs k h
  rw [List.take_add_one, this]; rfl
theorem mR_ent (i : Nat) (z : Int) (h : 0 ≤ z ∧ z ≤ 1000000000) : (mR i z).ent = true := by
  unfold mR
  split
  · exact ents4 (by omega) (by omega) (by omega) (by omega)
  · exact ents4 (by omega) (by omega) (by omega) (by omega)
theorem msR_ent {zs : List Int} (h : OkR zs) : ∀ m ∈ msR zs, m.ent = true := by
  intro m hm
  obtain ⟨k, hk, rfl⟩ := List.mem_iff_getElem.mp hm
  rw [msR_len] at hk
  have := msR_at zs k hk
  rw [List.getElem?_eq_getElem (by rw [msR_len]; exact hk)] at this
  rw [Option.some.inj this]
  exact mR_ent _ _ (h.2 k hk).1
open Classical in
/-- what MatrixOfRuns answers -/
noncomputable def runsV (zs : List Int) : Value := if OkR zs then prodV (prodL M4.I (msR zs)) else .tuple #[.agg #[.int .i64 0, .int .i64 0, .int .i64 0, .int .i64 0], .int .i64 2]
theorem runsV_yes {zs : List Int} (h : OkR zs) : runsV zs = prodV (prodL M4.I (msR zs)) := if_pos h
theorem runsV_no {zs : List Int} (h : ¬ OkR zs) : runsV zs = .tuple #[.agg #[.int .i64 0, .int .i64 0, .int .i64 0, .int .i64 0], .int .i64 2] := if_neg h
theorem runsV_form (zs : List Int) : ∃ a b c d e : Int, runsV zs = .tuple #[.agg #[.int .i64 a, .int .i64 b, .int .i64 c, .int .i64 d], .int .i64 e] := by
  unfold runsV
  split
  · exact prodV_form _
  · exact ⟨_, _, _, _, _, rfl⟩
end Go.Proofs.YtlkhhpckgcdeeaaGreatDoor
