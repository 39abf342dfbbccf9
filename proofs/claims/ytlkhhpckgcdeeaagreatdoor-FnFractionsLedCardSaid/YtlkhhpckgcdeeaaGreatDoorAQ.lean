/- MatrixOfWord. -/
import Derived.Test.YtlkhhpckgcdeeaaGreatDoorAO
namespace Go.Proofs.YtlkhhpckgcdeeaaGreatDoor
open Go.RowKit
set_option linter.unusedVariables false
set_option linter.unusedSimpArgs false
theorem l01Times_yes (m n : M4) (w : World) (hm : m.ent = true) (hn : n.ent = true) (h : (m.mul n).ent = true) :
    Calls Tryz.prog 109 #[m.v, n.v] w fun e w' => e = .returned (.tuple #[(m.mul n).v, .bool true]) ∧ Below w.heap.size w w' := by
  obtain ⟨m0, m1, m2, m3⟩ := M4.ent_iff.mp hm
  obtain ⟨n0, n1, n2, n3⟩ := M4.ent_iff.mp hn
  refine (l01Times_c m.a m.b m.c m.d n.a n.b n.c n.d w m0 m1 m2 m3 n0 n1 n2 n3).mono ?_
  rintro e w' ⟨rfl, b⟩
  exact ⟨congrArg Ending.returned (show (if (m.mul n).ent = true then (.tuple #[(m.mul n).v, .bool true] : Value) else .tuple #[.agg #[.int .i64 0, .int .i64 0, .int .i64 0, .int .i64 0], .bool false]) = _ from if_pos h), b⟩
theorem l01Times_no (m n : M4) (w : World) (hm : m.ent = true) (hn : n.ent = true) (h : (m.mul n).ent = false) :
    Calls Tryz.prog 109 #[m.v, n.v] w fun e w' => e = .returned (.tuple #[.agg #[.int .i64 0, .int .i64 0, .int .i64 0, .int .i64 0], .bool false]) ∧ Below w.heap.size w w' := by
  obtain ⟨m0, m1, m2, m3⟩ := M4.ent_iff.mp hm
  obtain ⟨n0, n1, n2, n3⟩ := M4.ent_iff.mp hn
  refine (l01Times_c m.a m.b m.c m.d n.a n.b n.c n.d w m0 m1 m2 m3 n0 n1 n2 n3).mono ?_
  rintro e w' ⟨rfl, b⟩
  exact ⟨congrArg Ending.returned (show (if (m.mul n).ent = true then (.tuple #[(m.mul n).v, .bool true] : Value) else .tuple #[.agg #[.int .i64 0, .int .i64 0, .int .i64 0, .int .i64 0], .bool false]) = _ from if_neg (by rw [h]; simp)), b⟩
/-- where a product of the reference stands -/
def At (f : Bool) (m : M4) (ms : List M4) (k : Nat) : Prop := if f = true then m.ent = true ∧ prodL m (ms.drop k) = prodL M4.I ms else prodL M4.I ms = none
/-- a letter of a word -/
def isT (b : UInt8) : Bool := decide (b = 83 ∨ b = 84 ∨ b = 116 ∨ b = 76 ∨ b = 108)
theorem isT_iff {b : UInt8} : isT b = true ↔ (b = 83 ∨ b = 84 ∨ b = 116 ∨ b = 76 ∨ b = 108) := by simp [isT]
theorem index_T (b : UInt8) : decide (0 ≤ Lib.indexByte [83, 84, 116, 76, 108] b) = isT b := by
  have h : ∀ x y : UInt8, (x == y) = decide (y = x) := by
    intro x y
    by_cases e : x = y
    · subst e; simp
    · simp [e, Ne.symm e]
  simp only [Lib.indexByte, h, isT]
  by_cases h1 : b = 83 <;> by_cases h2 : b = 84 <;> by_cases h3 : b = 116 <;> by_cases h4 : b = 76 <;> by_cases h5 : b = 108 <;> simp [h1, h2, h3, h4, h5]
theorem okW_T (l : List UInt8) : okW [83, 84, 116, 76, 108] l = l.all isT := by
  unfold okW
  congr 1
  funext c
  exact index_T c
theorem isT_isL {b : UInt8} (h : isT b = true) : isL b := by
  rcases isT_iff.mp h with h | h | h | h | h <;> simp [isL, h]
theorem all_step {l : List UInt8} {p : UInt8 → Bool} {k : Nat} (hk : k < l.length) : (l.drop k).all p = (p l[k] && (l.drop (k + 1)).all p) := by
  rw [List.drop_eq_getElem_cons hk]; rfl
/-- what MatrixOfWord answers -/
def wordV (s : ByteArray) : Value := if (s.data.toList.all isT && decide (s.size ≤ 200)) = true then prodV (prodL M4.I (s.data.toList.map letM)) else .tuple #[.agg #[.int .i64 0, .int .i64 0, .int .i64 0, .int .i64 0], .int .i64 2]
theorem wordV_form (s : ByteArray) : ∃ a b c d e : Int, wordV s = .tuple #[.agg #[.int .i64 a, .int .i64 b, .int .i64 c, .int .i64 d], .int .i64 e] := by
  unfold wordV
  split
  · exact prodV_form _
  · exact ⟨_, _, _, _, _, rfl⟩
end Go.Proofs.YtlkhhpckgcdeeaaGreatDoor
