/- Rows of fractions and of matrices: equal, marked, held. -/
import Derived.Test.YtmopjfjmmdnapaaAD
import Derived.Deep.RegionHeld3
import Derived.Deep.DrawnRows
import Derived.IntWalk
namespace Go.Proofs.Ytmopjfjmmdnapaa
open Go.RowKit
set_option linter.unusedVariables false
set_option linter.unusedSimpArgs false
/-- a row of elements of some numbers each, that lies in a block from B on and that may be written -/
def OwnF (sz B : Nat) (w : World) (v : Value) (xs : List Int) : Prop :=
  (xs = [] ∧ ∃ p c, v = .slice p 0 c) ∨ (∃ g n c, v = .slice (some ⟨g, 0, none⟩) n c ∧ xs.length = n * sz ∧ B ≤ g ∧ g < w.heap.size ∧ RowI w g 0 xs ∧ ∀ i, w.frozen? ⟨g, i, none⟩ = false)
theorem OwnF.nil {sz B : Nat} {w : World} : OwnF sz B w (.slice none 0 0) [] := .inl ⟨rfl, none, 0, rfl⟩
theorem OwnF.of_row {sz : Nat} {w : World} {base n : Nat} {e : TypeId} {v : Value} {xs : List Int} (hs : 0 < sz) (h : w.ownsRow base e sz v n (xs.map (Value.int .i64))) : OwnF sz base w v xs := by
  have hc := @World.ownsRow.cells w base e sz v n _ h
  have hlt := h.lt
  have hl : xs.length = n * sz := by have := h.1; simpa using this
  rcases h.2 with ⟨h1, h2⟩ | ⟨g, cap, cur, hv, hb, hg, h3, h4, h5, h6⟩
  · exact .inl ⟨by rw [h2] at hl; exact List.length_eq_zero_iff.mp (by omega), _, _, by rw [h1]⟩
  · refine .inr ⟨g, n, cap, hv, hl, hb, (hlt g (by rw [hv]; rfl)).2, ?_, ?_⟩
    · intro k hk
      have := hc (g := g) (by rw [hv]; rfl) k (.int .i64 (xs.getD k 0)) (by simp [List.getElem?_eq_getElem hk, List.getD])
      by_cases hk0 : k = 0
      · subst hk0; simpa [Addr.add] using this
      · simpa [Addr.add, hk0] using this
    · intro i; simp [World.frozen?, hg]
theorem OwnF.base {sz B B' : Nat} {w : World} {v : Value} {xs : List Int} (h : OwnF sz B w v xs) (hb : B' ≤ B) : OwnF sz B' w v xs := by
  rcases h with h | ⟨g, n, c, h1, h2, h3, h4, h5, h6⟩
  · exact .inl h
  · exact .inr ⟨g, n, c, h1, h2, by omega, h4, h5, h6⟩
theorem OwnF.below {sz B C : Nat} {w w' : World} {v : Value} {xs : List Int} (h : OwnF sz B w v xs) (hb : Below C w w') (hc : w.heap.size ≤ C) : OwnF sz B w' v xs := by
  rcases h with h | ⟨g, n, c, h1, h2, h3, h4, h5, h6⟩
  · exact .inl h
  · refine .inr ⟨g, n, c, h1, h2, h3, Nat.lt_of_lt_of_le h4 hb.size, fun k hk => ?_, fun i => ?_⟩
    · rw [hb.cell (p := ⟨g, 0 + k, none⟩) (by dsimp only; omega)]; exact h5 k hk
    · rw [hb.frozen (p := ⟨g, i, none⟩) (by dsimp only; omega)]; exact h6 i
theorem OwnF.below_at {sz B B0 C : Nat} {w w' w0 : World} {v : Value} {xs : List Int} (h : OwnF sz B w v xs) (h0 : OwnF sz B0 w0 v xs) (hz : w0.heap.size ≤ C) (hb : Below C w w') : OwnF sz B w' v xs := by
  rcases h with h | ⟨g, n, c, h1, h2, h3, h4, h5, h6⟩
  · exact .inl h
  · rcases h0 with ⟨e, p, c', h1'⟩ | ⟨g', n', c', h1', _, _, h4', _, _⟩
    · subst e; rw [h1] at h1'; injection h1' with e1 e2 e3; exact .inl ⟨rfl, _, _, by rw [h1, e2]⟩
    · rw [h1] at h1'
      obtain rfl : g = g' := by injection h1' with e; injection e with e; injection e
      refine .inr ⟨g, n, c, h1, h2, h3, Nat.lt_of_lt_of_le h4 hb.size, fun k hk => ?_, fun i => ?_⟩
      · rw [hb.cell (p := ⟨g, 0 + k, none⟩) (by dsimp only; omega)]; exact h5 k hk
      · rw [hb.frozen (p := ⟨g, i, none⟩) (by dsimp only; omega)]; exact h6 i
theorem markF_step {wr : World} {b n k : Nat} {k0 : Int} {zs : List Int} (hk : k < n) (h : ∀ j, j < n → wr.cell? ⟨b, 0 + j, none⟩ = some (.int .i64 (if j < k then k0 + (j : Int) else zs.getD j 0))) {x : Int} (hx : x = k0 + (k : Int)) {o : Nat} (ho : o = k) :
    ∀ j, j < n → (wr.setCell ⟨b, o, none⟩ (.int .i64 x)).cell? ⟨b, 0 + j, none⟩ = some (.int .i64 (if j < k + 1 then k0 + (j : Int) else zs.getD j 0)) := by
  subst hx ho
  intro j hj
  have hk' := h o hk
  have hj' := h j hj
  simp only [Nat.zero_add] at hk' hj' ⊢
  by_cases e : j = o
  · subst e
    rw [if_pos (by omega)]
    go_simp
  · have hne' : ¬ o = j := by omega
    have hif : (if j < o + 1 then k0 + (j : Int) else zs.getD j 0) = (if j < o then k0 + (j : Int) else zs.getD j 0) := by
      by_cases c : j < o
      · rw [if_pos c, if_pos (by omega)]
      · rw [if_neg c, if_neg (by omega)]
    rw [hif, ← hj']
    go_simp
end Go.Proofs.Ytmopjfjmmdnapaa
