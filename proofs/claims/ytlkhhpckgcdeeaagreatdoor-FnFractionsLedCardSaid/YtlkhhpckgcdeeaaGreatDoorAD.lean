/- Rows of numbers that a call owns, as opaque values: equal, marked, held. -/
import Derived.Test.YtlkhhpckgcdeeaaGreatDoorI
import Derived.StillTailTactics
namespace Go.Proofs.YtlkhhpckgcdeeaaGreatDoor
open Go.RowKit
set_option linter.unusedVariables false
set_option linter.unusedSimpArgs false
theorem under_i64s : Tryz.prog.underlying 48 = some (.slice 2) := by kernel_rfl
theorem info_i64 : (Tryz.prog.info? 2).map (fun i => (i.zero, i.size, i.bytes)) = some (some (.int .i64 0), 1, 8) := by kernel_rfl
/-- a row of numbers that lies in a block from B on and that may be written -/
def OwnI (B : Nat) (w : World) (v : Value) (zs : List Int) : Prop :=
  (zs = [] ∧ ∃ p c, v = .slice p 0 c) ∨ (∃ g c, v = .slice (some ⟨g, 0, none⟩) zs.length c ∧ B ≤ g ∧ g < w.heap.size ∧ RowI w g 0 zs ∧ ∀ i, w.frozen? ⟨g, i, none⟩ = false)
theorem OwnI.nil {B : Nat} {w : World} : OwnI B w (.slice none 0 0) [] := .inl ⟨rfl, none, 0, rfl⟩
theorem OwnI.of_row {w : World} {base : Nat} {e : TypeId} {v : Value} {zs : List Int} (h : w.ownsRow base e 1 v zs.length (zs.map (Value.int .i64))) : OwnI base w v zs := by
  have hc := @World.ownsRow.cells w base e 1 v zs.length _ h
  have hlt := h.lt
  rcases h.2 with ⟨h1, h2⟩ | ⟨g, cap, cur, hv, hb, hg, h3, h4, h5, h6⟩
  · exact .inl ⟨List.length_eq_zero_iff.mp h2, _, _, h1⟩
  · refine .inr ⟨g, cap, hv, hb, (hlt g (by rw [hv]; rfl)).2, ?_, ?_⟩
    · intro k hk
      have := hc (g := g) (by rw [hv]; rfl) k (.int .i64 (zs.getD k 0)) (by simp [List.getElem?_eq_getElem hk, List.getD])
      by_cases hk0 : k = 0
      · subst hk0; simpa [Addr.add] using this
      · simpa [Addr.add, hk0] using this
    · intro i; simp [World.frozen?, hg]
theorem OwnI.base {B B' : Nat} {w : World} {v : Value} {zs : List Int} (h : OwnI B w v zs) (hb : B' ≤ B) : OwnI B' w v zs := by
  rcases h with h | ⟨g, c, h1, h2, h3, h4, h5⟩
  · exact .inl h
  · exact .inr ⟨g, c, h1, by omega, h3, h4, h5⟩
theorem OwnI.below {B C : Nat} {w w' : World} {v : Value} {zs : List Int} (h : OwnI B w v zs) (hb : Below C w w') (hc : w.heap.size ≤ C) : OwnI B w' v zs := by
  rcases h with h | ⟨g, c, h1, h2, h3, h4, h5⟩
  · exact .inl h
  · refine .inr ⟨g, c, h1, h2, Nat.lt_of_lt_of_le h3 hb.size, fun k hk => ?_, fun i => ?_⟩
    · rw [hb.cell (p := ⟨g, 0 + k, none⟩) (by dsimp only; omega)]; exact h4 k hk
    · rw [hb.frozen (p := ⟨g, i, none⟩) (by dsimp only; omega)]; exact h5 i
/-- the same for a row in a block below C -/
theorem OwnI.below_at {B B0 C : Nat} {w w' w0 : World} {v : Value} {zs : List Int} (h : OwnI B w v zs) (h0 : OwnI B0 w0 v zs) (hz : w0.heap.size ≤ C) (hb : Below C w w') : OwnI B w' v zs := by
  rcases h with h | ⟨g, c, h1, h2, h3, h4, h5⟩
  · exact .inl h
  · rcases h0 with ⟨e, _⟩ | ⟨g', c', h1', _, h3', _, _⟩
    · subst e; exact .inl ⟨rfl, _, _, h1⟩
    · rw [h1] at h1'
      obtain rfl : g = g' := by injection h1' with e; injection e with e; injection e
      refine .inr ⟨g, c, h1, h2, Nat.lt_of_lt_of_le h3 hb.size, fun k hk => ?_, fun i => ?_⟩
      · rw [hb.cell (p := ⟨g, 0 + k, none⟩) (by dsimp only; omega)]; exact h4 k hk
      · rw [hb.frozen (p := ⟨g, i, none⟩) (by dsimp only; omega)]; exact h5 i
/-- what marking leaves -/
def marks (k : Int) (zs : List Int) : List Int := (List.range zs.length).map fun (j : Nat) => k + (j : Int)
theorem marks_len (k : Int) (zs : List Int) : (marks k zs).length = zs.length := by simp [marks]
theorem marks_at (k : Int) (zs : List Int) (j : Nat) (h : j < zs.length) : (marks k zs).getD j 0 = k + (j : Int) := by
  simp [marks, List.getD, h]
theorem grown_cell {w w' : World} {row : Option Nat} (hg : w.grownBy w' row) {g i : Nat} (hlt : g < w.heap.size) (hne : row ≠ some g) : w'.cell? ⟨g, i, none⟩ = w.cell? ⟨g, i, none⟩ :=
  World.cell?_of_block (hg.block g hlt (fun e => hne e.symm))
theorem grown_frozen {w w' : World} {row : Option Nat} (hg : w.grownBy w' row) {g i : Nat} (hlt : g < w.heap.size) (hne : row ≠ some g) : w'.frozen? ⟨g, i, none⟩ = w.frozen? ⟨g, i, none⟩ :=
  World.frozen?_of_block (hg.block g hlt (fun e => hne e.symm))
/-- a new, empty row -/
theorem own_new (w : World) (base : Nat) (e : TypeId) (size : Nat) (hb : base ≤ w.heap.size) : (w.alloc (Obj.cells #[] e)).ownsRow base e size (.slice (some ⟨w.heap.size, 0, none⟩) 0 0) 0 [] :=
  ⟨by simp, .inr ⟨w.heap.size, 0, #[], rfl, hb, heap_alloc_new w _, by omega, by unfold maxLen; omega, by simp, by simp⟩⟩
/-- the length of a slice's value -/
def lenOf : Value → Nat
  | .slice _ n _ => n
  | _ => 0
theorem lenOf_row {w : World} {base : Nat} {e : TypeId} {size : Nat} {v : Value} {n : Nat} {xs : List Value} (h : w.ownsRow base e size v n xs) : lenOf v = n := by
  rcases h.2 with ⟨h1, h2⟩ | ⟨g, cap, cur, hv, _⟩
  · subst h1; subst h2; rfl
  · subst hv; rfl
theorem own_set {w : World} {base n size : Nat} {e : TypeId} {v u : Value} {xs : List Value} {p : Addr} (h : w.ownsRow base e size v n xs) (hp : p.block < base) : (w.setCell p u).ownsRow base e size v n xs :=
  ⟨h.1, h.2.imp id (fun ⟨g, cap, cur, h1, h2, h3, h4⟩ => ⟨g, cap, cur, h1, h2, by rw [Below.heap_setCell w p u g (by omega)]; exact h3, h4⟩)⟩
theorem own_drewN {w : World} {base n size : Nat} {e : TypeId} {v : Value} {xs : List Value} {m : Nat} (h : w.ownsRow base e size v n xs) : (w.drewN m).ownsRow base e size v n xs := by
  obtain ⟨h1, h2⟩ := h
  refine ⟨h1, h2.imp id (fun ⟨g, cap, cur, h1, h2, h3, h4⟩ => ⟨g, cap, cur, h1, h2, by simpa using h3, h4⟩)⟩
/-- what an append of one new element leaves -/
theorem app_after {w wr w3 : World} {o : Obj} {v : Value} {B base n size : Nat} {e : TypeId} {xs : List Value} (hown : wr.ownsRow base e size v n xs) (hg : (wr.alloc o).grownBy w3 v.ownBlock) (hB : Below B w wr) (hb : B ≤ base) (hw : base ≤ wr.heap.size) :
    Below B w w3 ∧ wr.heap.size < w3.heap.size ∧ (∀ g i, g < base → w3.cell? ⟨g, i, none⟩ = wr.cell? ⟨g, i, none⟩) ∧ (∀ g i, g < base → w3.frozen? ⟨g, i, none⟩ = wr.frozen? ⟨g, i, none⟩) := by
  have hz := hg.size
  simp at hz
  refine ⟨Below.grown (Below.alloc hB (by omega) _) hg (by simp; omega) (fun k hk => by have := (hown.lt k hk).1; omega), by omega, ?_, ?_⟩
  · intro g i hlt
    rw [grown_cell hg (by simp; omega) (fun e => by have := (hown.lt g e).1; omega), World.cell?_alloc_lt _ _ _ (by dsimp only; omega)]
  · intro g i hlt
    rw [grown_frozen hg (by simp; omega) (fun e => by have := (hown.lt g e).1; omega)]
    exact World.frozen?_alloc_old _ _ _ (by dsimp only; omega)
end Go.Proofs.YtlkhhpckgcdeeaaGreatDoor
