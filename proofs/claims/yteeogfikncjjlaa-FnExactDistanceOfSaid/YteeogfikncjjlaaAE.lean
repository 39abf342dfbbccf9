/- Chains: the walks. -/
import Derived.Test.YteeogfikncjjlaaAA
import Derived.Test.YteeogfikncjjlaaAD
import Derived.Test.YteeogfikncjjlaaB
import Derived.Test.YteeogfikncjjlaaW
import Derived.Deep.RegionHeld3
import Derived.Deep.AppendLies
import Derived.Deep.DrawnRows
import Derived.IntWalk
namespace Go.Proofs.Yteeogfikncjjlaa
open Go.RowKit
open Plain (flo Chain)
set_option linter.unusedVariables false
set_option linter.unusedSimpArgs false
theorem tdiv_bd2 (a b A : Int) (h0 : -A ≤ a) (h1 : a ≤ A) : -A ≤ a.tdiv b ∧ a.tdiv b ≤ A := by
  have := Int.natAbs_tdiv_le_natAbs a b
  omega
theorem flo_bd (a b : Int) (ha0 : -4000000000000 ≤ a) (ha1 : a ≤ 4000000000000) : -4000000000001 ≤ flo a b ∧ flo a b ≤ 4000000000000 := by
  obtain ⟨t0, t1⟩ := tdiv_bd2 a b 4000000000000 ha0 ha1
  unfold flo
  split <;> omega
theorem flo_neg_neg (a b : Int) (hb : b < 0) : flo (-a) (-b) = flo a b := by
  unfold flo
  have e1 : (-a).tmod (-b) = -(a.tmod b) := by rw [Int.neg_tmod, Int.tmod_neg]
  have e2 : (-a).tdiv (-b) = a.tdiv b := by rw [Int.neg_tdiv_neg]
  have h1 := Int.tmod_nonneg (a := a) b
  by_cases h0 : a = 0
  · subst h0; simp
  · rw [e1, e2]
    by_cases h2 : a.tmod b = 0
    · rw [if_neg (by simp [h2]), if_neg (by simp [h2])]
    · by_cases h3 : a < 0
      · rw [if_neg (by omega), if_neg (by omega)]
      · rw [if_pos (by omega), if_pos (by omega)]
theorem own_step1 {zs l : List Int} {x : Int} {n : Nat} (h1 : zs.take n ++ x :: l = zs) : Hid (zs.take (n + 1) ++ l = zs) := by
  apply Lib.hid
  by_cases hn : n < zs.length
  · have e : zs[n] = x := by
      have := congrArg (fun t : List Int => t[n]?) h1
      simp [List.getElem?_append, hn, Nat.le_of_lt hn] at this
      exact this.symm
    rw [List.take_succ_eq_append_getElem hn, e, List.append_assoc]; exact h1
  · have := congrArg List.length h1
    simp at this; omega
theorem own_step2 {w : World} {base n : Nat} {v : Value} {e : TypeId} {zs l : List Int} {x : Int} (h1 : zs.take n ++ x :: l = zs) (h : w.ownsRow base e 1 v (n + 1) ((zs.take n).map (Value.int .i64) ++ [.int .i64 x])) : w.ownsRow base e 1 v (n + 1) ((zs.take (n + 1)).map (Value.int .i64)) := by
  have e2 : (zs.take n).map (Value.int .i64) ++ [.int .i64 x] = (zs.take (n + 1)).map (Value.int .i64) := by
    by_cases hn : n < zs.length
    · have e : zs[n] = x := by
        have := congrArg (fun t : List Int => t[n]?) h1
        simp [List.getElem?_append, hn, Nat.le_of_lt hn] at this
        exact this.symm
      rw [List.take_succ_eq_append_getElem hn, e]; simp
    · have := congrArg List.length h1
      simp at this; omega
  rw [e2] at h; exact h
theorem own_end {w : World} {base n g cap : Nat} {e : TypeId} {zs : List Int} {x : Int} (h1 : zs.take n ++ [x] = zs) (h2 : n + [x].length = zs.length) (h : w.ownsRow base e 1 (.slice (some ⟨g, 0, none⟩) (n + 1) cap) (n + 1) ((zs.take n).map (Value.int .i64) ++ [.int .i64 x])) : w.ownsRow base e 1 (.slice (some ⟨g, 0, none⟩) (n + 1) cap) zs.length (zs.map (Value.int .i64)) := by
  have e1 : n + 1 = zs.length := h2
  have e2 : (zs.take n).map (Value.int .i64) ++ [.int .i64 x] = zs.map (Value.int .i64) := by rw [← congrArg (List.map (Value.int .i64)) h1]; simp
  rw [e2] at h; rw [← e1]; exact h
theorem floor_c (a b : Int) (w : World) (hb : b ≠ 0) (ha0 : -4000000000000 ≤ a) (ha1 : a ≤ 4000000000000) (hb0 : -4000000000000 ≤ b) (hb1 : b ≤ 4000000000000) :
    Calls Try.prog 21 #[.int .i64 a, .int .i64 b] w fun e w' => e = .returned (.int .i64 (flo a b)) ∧ w = w' := by
  obtain ⟨t0, t1⟩ := tdiv_bd2 a b 4000000000000 ha0 ha1
  have nz : (b == 0) = false := by simpa using hb
  cases h1 : (a.tmod b == 0) <;> cases h2 : decide (a < 0) <;> cases h3 : decide (b < 0)
  all_goals
    have h1' := Lib.hid h1
    go_enter Try.func21, Try.ntmps21
    go_wp2
    all_goals (go_ret; exact ⟨ret_int (by have e := h1'.out; simp at e h2 h3; unfold flo; split <;> omega), rfl⟩)
end Go.Proofs.Yteeogfikncjjlaa
