/- FareyRow. -/
import Derived.Test.YtandannjdhnlmaaFL
import Derived.Test.YtandannjdhnlmaaZ
import Derived.Deep.AppendLies
import Derived.Deep.DeepCutAuto
namespace Go.Proofs.Ytandannjdhnlmaa
open Go.RowKit
set_option linter.unusedVariables false
set_option linter.unusedSimpArgs false
attribute [local go_sem] run_min_int4 run_max_int4
attribute [local go_sem] run_equalIn_Q
/-- the rest of a row behind x / y, as a flat list -/
inductive RowR (n : Int) : Int → Int → List Int → Prop
  | stop : RowR n 1 1 []
  | step (x y r s : Int) (l : List Int) : 0 ≤ x → x < y → y ≤ n → NextF n x y r s → RowR n r s l → RowR n x y (r :: s :: l)
theorem nextF_gcd {n x y r s : Int} (h : NextF n x y r s) : Int.gcd r s = 1 := by
  have h1 : (Int.gcd r s : Int) ∣ r := Int.gcd_dvd_left ..
  have h2 : (Int.gcd r s : Int) ∣ s := Int.gcd_dvd_right ..
  have h3 : (Int.gcd r s : Int) ∣ r * y - x * s := Int.dvd_sub (Int.dvd_mul_of_dvd_left h1) (Int.dvd_mul_of_dvd_right h2)
  rw [h.one] at h3
  have := Int.le_of_dvd (by omega) h3
  have hne : Int.gcd r s ≠ 0 := by
    intro h0
    rw [h0] at h3
    simp at h3
  omega
theorem row_up {n x y r s : Int} (h : NextF n x y r s) (hn : n ≤ 20) (hy : 1 ≤ y) (hyn : y ≤ n) : 400 * x / y + 1 ≤ 400 * r / s := by
  have hs := h.pos
  have hsn := h.le
  have h1 : y * (400 * x / y) ≤ 400 * x := by
    have e1 := Int.mul_ediv_add_emod (400 * x) y
    have e2 := Int.emod_nonneg (400 * x) (show y ≠ 0 by omega)
    omega
  have h2 : s * y ≤ 400 := by
    have a1 : s * y ≤ 20 * y := Int.mul_le_mul_of_nonneg_right (by omega) (by omega)
    omega
  have h3 : (y * (400 * x / y)) * s ≤ (400 * x) * s := Int.mul_le_mul_of_nonneg_right h1 (by omega)
  have ho := h.one
  generalize 400 * x / y = a at *
  apply Int.le_ediv_of_mul_le (by omega)
  have h4 : y * ((a + 1) * s) ≤ y * (400 * r) := by
    have e1 : y * ((a + 1) * s) = (y * a) * s + s * y := by grind
    have e2 : y * (400 * r) = (400 * x) * s + 400 := by grind
    omega
  exact Int.le_of_mul_le_mul_left h4 (by omega)
theorem row_ex (n : Int) (hn : n ≤ 20) : ∀ m : Nat, ∀ x y : Int, 0 ≤ x → (x < y ∨ (x = 1 ∧ y = 1)) → 1 ≤ y → y ≤ n → Int.gcd x y = 1 → 400 - 400 * x / y ≤ m → ∃ l, RowR n x y l ∧ l.length ≤ 2 * m := by
  intro m
  induction m with
  | zero =>
    intro x y hx hxy hy hyn hg hm
    rcases hxy with hxy | ⟨rfl, rfl⟩
    · exfalso
      have : 400 * x / y < 400 := Int.ediv_lt_of_lt_mul (by omega) (by omega)
      omega
    · exact ⟨[], .stop, by simp⟩
  | succ m ih =>
    intro x y hx hxy hy hyn hg hm
    rcases hxy with hxy | ⟨rfl, rfl⟩
    · obtain ⟨r, s, h⟩ := nextF_ex hx hy hyn hg
      have hst := nextF_start h hx hxy
      have hup := row_up h hn hy hyn
      obtain ⟨l, hl, hlen⟩ := ih r s (by omega) (by by_cases e : r = s; exact .inr (hst.2.1 e); exact .inl (by omega)) h.pos h.le (nextF_gcd h) (by omega)
      exact ⟨r :: s :: l, .step x y r s l hx hxy hyn h hl, by simp; omega⟩
    · exact ⟨[], .stop, by simp⟩
theorem take_two {zs l : List Int} {r s : Int} {m : Nat} (hm : 2 * m ≤ zs.length) (h : zs.take (2 * m) ++ r :: s :: l = zs) : zs.take (2 * (m + 1)) = zs.take (2 * m) ++ [r, s] ∧ zs.take (2 * (m + 1)) ++ l = zs ∧ 2 * (m + 1) ≤ zs.length := by
  have hl : (zs.take (2 * m)).length = 2 * m := by rw [List.length_take]; omega
  have e1 : zs.take (2 * (m + 1)) = zs.take (2 * m) ++ [r, s] := by
    conv => lhs; rw [← h]
    rw [show 2 * (m + 1) = (zs.take (2 * m)).length + 2 by omega, List.take_length_add_append]
    rfl
  have hlen := congrArg List.length h
  simp at hlen
  exact ⟨e1, by rw [e1, List.append_assoc]; exact h, by omega⟩
theorem under_Qs : Try.prog.underlying 22 = some (.slice 31) := by kernel_rfl
theorem info_Q : (Try.prog.info? 31).map (fun i => (i.zero, i.size, i.bytes)) = some (some (.agg #[.int .i64 0, .int .i64 0]), 2, 16) := by kernel_rfl
theorem grownF_far {w2 w3 : World} {o : Obj} {g n cap : Nat} (hg : (w2.alloc o).grownBy w3 (Value.slice (some ⟨g, 0, none⟩) n cap).ownBlock) (bb : Nat) (h1 : bb < w2.heap.size) (h2 : bb ≠ g) :
    (∀ i, w3.cell? ⟨bb, i, none⟩ = w2.cell? ⟨bb, i, none⟩) ∧ (∀ i, w3.frozen? ⟨bb, i, none⟩ = w2.frozen? ⟨bb, i, none⟩) := by
  have hne : some bb ≠ (Value.slice (some ⟨g, 0, none⟩) n cap).ownBlock := by simpa [Value.ownBlock] using h2
  constructor
  · intro i
    rw [hg.cell_far ⟨bb, i, none⟩ (by simp; omega) hne]
    exact World.cell?_alloc_lt _ _ _ h1
  · intro i
    rw [hg.frozen_far ⟨bb, i, none⟩ (by simp; omega) hne]
    exact World.frozen?_alloc_old _ _ _ (by dsimp only; omega)
theorem ownF_bl {w w' : World} {base n size : Nat} {e : TypeId} {v : Value} {xs : List Value} (h : w.ownsRow base e size v n xs) (hb : Below w.heap.size w w') : w'.ownsRow base e size v n xs := by
  have hlt := h.lt
  obtain ⟨h1, h2⟩ := h
  refine ⟨h1, h2.imp id (fun ⟨g, cap, cur, h1, h2, h3, h4⟩ => ⟨g, cap, cur, h1, h2, ?_, h4⟩)⟩
  rw [hb.block g (by have := (hlt g (by rw [h1]; rfl)).2; omega)]; exact h3
theorem ownF_setg {w : World} {base n m g cap size : Nat} {e : TypeId} {u : Value} {xs : List Value} {p : Addr} (h : w.ownsRow base e size (.slice (some ⟨g, 0, none⟩) n cap) m xs) (hp : p.block ≠ g) : (w.setCell p u).ownsRow base e size (.slice (some ⟨g, 0, none⟩) n cap) m xs := by
  refine ⟨h.1, h.2.imp id (fun ⟨g', cap', cur, h1, h2, h3, h4⟩ => ⟨g', cap', cur, h1, h2, ?_, h4⟩)⟩
  injection h1 with e1 e2 e3
  injection e1 with e1
  injection e1 with e1
  subst e1
  rw [Below.heap_setCell w p u g (by omega)]; exact h3
theorem ownQ_new (w : World) (a b : Int) : (w.alloc (Obj.cells #[.int .i64 a, .int .i64 b] 31)).ownsRow w.heap.size 31 2 (.slice (some ⟨w.heap.size, 0, none⟩) 1 1) 1 ([a, b].map (Value.int .i64)) :=
  ⟨rfl, .inr ⟨w.heap.size, 1, #[.int .i64 a, .int .i64 b], rfl, Nat.le_refl _, heap_alloc_new w _, Nat.le_refl _, by unfold maxLen; omega, rfl, rfl⟩⟩
end Go.Proofs.Ytandannjdhnlmaa
