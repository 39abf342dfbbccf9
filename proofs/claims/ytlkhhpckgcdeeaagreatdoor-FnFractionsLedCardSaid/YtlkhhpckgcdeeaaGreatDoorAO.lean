/- Rows of matrices that a call owns; ofWord. -/
import Derived.Test.YtlkhhpckgcdeeaaGreatDoorAM
import Derived.Test.YtlkhhpckgcdeeaaGreatDoorR
import Derived.Deep.AppendLies
import Derived.Deep.DeepCutAuto
namespace Go.Proofs.YtlkhhpckgcdeeaaGreatDoor
open Go.RowKit
set_option linter.unusedVariables false
set_option linter.unusedSimpArgs false
theorem under_Ms : Tryz.prog.underlying 54 = some (.slice 25) := by kernel_rfl
theorem info_M : (Tryz.prog.info? 25).map (fun i => (i.zero, i.size, i.bytes)) = some (some (.agg #[.int .i64 0, .int .i64 0, .int .i64 0, .int .i64 0]), 4, 32) := by kernel_rfl
def M4.cs (m : M4) : List Value := [.int .i64 m.a, .int .i64 m.b, .int .i64 m.c, .int .i64 m.d]
def cells4 (ms : List M4) : List Value := ms.flatMap M4.cs
theorem cells4_snoc (ms : List M4) (m : M4) : cells4 (ms ++ [m]) = cells4 ms ++ m.cs := by simp [cells4]
theorem cells4_len (ms : List M4) : (cells4 ms).length = ms.length * 4 := by
  induction ms with
  | nil => rfl
  | cons m ms ih => simp only [cells4, List.flatMap_cons, List.length_append, List.length_cons] at *; rw [ih]; simp [M4.cs]; omega
theorem cells4_at (ms : List M4) (k : Nat) (m : M4) (h : ms[k]? = some m) : (cells4 ms)[k * 4]? = some (.int .i64 m.a) ∧ (cells4 ms)[k * 4 + 1]? = some (.int .i64 m.b) ∧ (cells4 ms)[k * 4 + 2]? = some (.int .i64 m.c) ∧ (cells4 ms)[k * 4 + 3]? = some (.int .i64 m.d) := by
  induction ms generalizing k with
  | nil => simp at h
  | cons x ms ih =>
    have e : cells4 (x :: ms) = x.cs ++ cells4 ms := rfl
    rw [e]
    cases k with
    | zero => simp at h; subst h; simp [M4.cs]
    | succ k =>
      have h4 : x.cs.length = 4 := rfl
      have := ih k (by simpa using h)
      simp only [List.getElem?_append, h4, show ¬ (k + 1) * 4 < 4 by omega, show ¬ (k + 1) * 4 + 1 < 4 by omega, show ¬ (k + 1) * 4 + 2 < 4 by omega, show ¬ (k + 1) * 4 + 3 < 4 by omega, if_false]
      simpa only [show (k + 1) * 4 - 4 = k * 4 by omega, show (k + 1) * 4 + 1 - 4 = k * 4 + 1 by omega, show (k + 1) * 4 + 2 - 4 = k * 4 + 2 by omega, show (k + 1) * 4 + 3 - 4 = k * 4 + 3 by omega] using this
theorem rowM_own {w : World} {base n : Nat} {e : TypeId} {v : Value} {ms : List M4} (h : w.ownsRow base e 4 v n (cells4 ms)) (hv : v ≠ .slice none 0 0) :
    ∃ g c, v = .slice (some ⟨g, 0, none⟩) n c ∧ ms.length = n ∧ base ≤ g ∧ g < w.heap.size ∧ RowM w g 0 ms := by
  have hc := @World.ownsRow.cells w base e 4 v n _ h
  have hlt := h.lt
  have hlen := h.1
  rw [cells4_len] at hlen
  have hn : ms.length = n := by omega
  rcases h.2 with ⟨h1, h2⟩ | ⟨g, cap, cur, h1, hb, hg, h3, h4, h5, h6⟩
  · exact absurd h1 hv
  · refine ⟨g, cap, h1, hn, hb, (hlt g (by rw [h1]; rfl)).2, ?_⟩
    intro k m hk
    obtain ⟨a0, a1, a2, a3⟩ := cells4_at ms k m hk
    have f0 := hc (g := g) (by rw [h1]; rfl) _ _ a0
    have f1 := hc (g := g) (by rw [h1]; rfl) _ _ a1
    have f2 := hc (g := g) (by rw [h1]; rfl) _ _ a2
    have f3 := hc (g := g) (by rw [h1]; rfl) _ _ a3
    have ad : ∀ j, (⟨g, 0, none⟩ : Addr).add j = ⟨g, 0 + j, none⟩ := by
      intro j; by_cases hj : j = 0
      · subst hj; simp [Addr.add]
      · simp [Addr.add, hj]
    rw [ad] at f0 f1 f2 f3
    exact ⟨f0, f1, f2, f3⟩
theorem own_below2 {w w' : World} {base n size : Nat} {e : TypeId} {v : Value} {xs : List Value} (h : w.ownsRow base e size v n xs) (hb : Below w.heap.size w w') : w'.ownsRow base e size v n xs := by
  have hlt := h.lt
  obtain ⟨h1, h2⟩ := h
  refine ⟨h1, h2.imp id (fun ⟨g, cap, cur, h1, h2, h3, h4⟩ => ⟨g, cap, cur, h1, h2, ?_, h4⟩)⟩
  rw [hb.block g (by have := (hlt g (by rw [h1]; rfl)).2; omega)]; exact h3
theorem letM_ent (b : UInt8) : (letM b).ent = true := by
  unfold letM
  repeat' (split <;> try decide)
end Go.Proofs.YtlkhhpckgcdeeaaGreatDoor
