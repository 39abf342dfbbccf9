/- Slices of numbers that came in; toInt64S. -/
import Derived.Test.YtmopjfjmmdnapaaAD
import Derived.Laws.NewBlocks
import Derived.Laws.OwnMore
namespace Go.Proofs.Ytmopjfjmmdnapaa
open Go.RowKit
set_option linter.unusedVariables false
set_option linter.unusedSimpArgs false
/-- a slice of numbers that may be read -/
def InI (w : World) (v : Value) (ys : List Int) : Prop :=
  (ys = [] ∧ ∃ a c, v = .slice a 0 c) ∨ (∃ b o c, v = .slice (some ⟨b, o, none⟩) ys.length c ∧ b < w.heap.size ∧ RowI w b o ys)
theorem OwnI.inI {B : Nat} {w : World} {v : Value} {ys : List Int} (h : OwnI B w v ys) : InI w v ys := by
  rcases h with ⟨h1, p, c, h2⟩ | ⟨g, c, h1, h2, h3, h4, h5⟩
  · exact .inl ⟨h1, p, c, h2⟩
  · exact .inr ⟨g, 0, c, h1, h3, h4⟩
theorem InI.below {C : Nat} {w w' : World} {v : Value} {ys : List Int} (h : InI w v ys) (hb : Below C w w') (hc : w.heap.size ≤ C) : InI w' v ys := by
  rcases h with h | ⟨b, o, c, h1, h2, h3⟩
  · exact .inl h
  · exact .inr ⟨b, o, c, h1, Nat.lt_of_lt_of_le h2 hb.size, fun k hk => by rw [hb.cell (p := ⟨b, o + k, none⟩) (by dsimp only; omega)]; exact h3 k hk⟩
theorem fill_step {wr : World} {b k n : Nat} {ys : List Int} (hk : k < n) (h : ∀ j, j < n → wr.cell? ⟨b, 0 + j, none⟩ = some (.int .i64 (if j < k then ys.getD j 0 else 0))) :
    ∀ j, j < n → (wr.setCell ⟨b, k, none⟩ (.int .i64 (ys.getD k 0))).cell? ⟨b, 0 + j, none⟩ = some (.int .i64 (if j < k + 1 then ys.getD j 0 else 0)) := by
  intro j hj
  have hk' := h k hk
  have hj' := h j hj
  simp only [Nat.zero_add] at hk' hj' ⊢
  by_cases e : j = k
  · subst e
    rw [if_pos (by omega)]
    go_simp
  · have hne' : ¬ k = j := by omega
    have hif : (if j < k + 1 then ys.getD j 0 else 0) = (if j < k then ys.getD j 0 else 0) := by
      by_cases c : j < k
      · rw [if_pos c, if_pos (by omega)]
      · rw [if_neg c, if_neg (by omega)]
    rw [hif, ← hj']
    go_simp
theorem own_frz {w : World} {base g n m cap size : Nat} {e : TypeId} {xs : List Value} (h : w.ownsRow base e size (.slice (some ⟨g, 0, none⟩) n cap) m xs) : ∀ i, w.frozen? ⟨g, i, none⟩ = false := by
  rcases h.2 with ⟨h1, _⟩ | ⟨g', cap', cur, hv, _, hg, _⟩
  · simp at h1
  · injection hv with e1 e2 e3
    injection e1 with e1
    injection e1 with e1
    subst e1
    intro i; simp [World.frozen?, hg]
theorem own_rowI {w : World} {base g n cap : Nat} {e : TypeId} {zs : List Int} (h : w.ownsRow base e 1 (.slice (some ⟨g, 0, none⟩) n cap) zs.length (zs.map (Value.int .i64))) : RowI w g 0 zs := by
  have hc := @World.ownsRow.cells w base e 1 _ zs.length _ h
  intro k hk
  have := hc (g := g) rfl k (.int .i64 (zs.getD k 0)) (by simp [List.getElem?_eq_getElem hk, List.getD])
  by_cases hk0 : k = 0
  · subst hk0; simpa [Addr.add] using this
  · simpa [Addr.add, hk0] using this
set_option maxHeartbeats 1000000 in
theorem toInt64S_c (v : Value) (ys : List Int) (w : World) (h : InI w v ys) (hl : ys.length ≤ 1048576) :
    Calls Try.prog 22 #[v] w fun e w' => ∃ v', e = .returned v' ∧ OwnI w.heap.size w' v' ys ∧ Below w.heap.size w w' := by
  obtain ⟨i0, hi, hz0, hz1, hz2⟩ := info_parts info_i64
  obtain ⟨wm, hrun, hown, hgrow⟩ := run_make_full w w.heap.size 23 2 i0 (.int .i64 0) 1 under_i64s hi hz0 hz1 .i64 .i64 ys.length (by rw [hz2]; omega) (by unfold maxLen; omega) (Nat.le_refl _)
  have hown' : wm.ownsRow w.heap.size 2 1 (.slice (some ⟨w.heap.size, 0, none⟩) ys.length ys.length) (List.replicate ys.length (0 : Int)).length ((List.replicate ys.length (0 : Int)).map (Value.int .i64)) := by
    rw [List.length_replicate, List.map_replicate, ← toList_madeCells_one]
    simpa [Value.cells] using hown
  have hRW : RowI wm w.heap.size 0 (List.replicate ys.length 0) := own_rowI hown'
  have hfr := own_frz hown
  have hBm : Below w.heap.size w wm := Below.grown (Below.refl _ _) hgrow (Nat.le_refl _) (fun k hk => by simp at hk)
  have hsm : w.heap.size < wm.heap.size := (hown.lt w.heap.size rfl).2
  clear hown hown' hgrow
  rcases h with ⟨rfl, a, c, rfl⟩ | ⟨b, o, c, rfl, hb, hr⟩
  · simp at hrun
    go_enter Try.func22, Try.ntmps22
    go_wp2
    refine wp_loop_rounds 1 ?_
    rw [rounds_succ]
    go_wp2
    exact bodyPost_ret (v := .slice (some ⟨w.heap.size, 0, none⟩) 0 0) (by simp only [results, Try.results22]; go_simp) rfl ⟨_, rfl, .inl ⟨rfl, _, _, rfl⟩, hBm⟩
  · have hcell : ∀ k, k < ys.length → wm.cell? ⟨w.heap.size, 0 + k, none⟩ = some (.int .i64 0) := by
      intro k hk
      have := hRW k (by simpa using hk)
      simpa [List.getD, hk] using this
    have HR := Lib.hid hr
    have HCELL := Lib.hid hcell
    have HFR := Lib.hid hfr
    clear hRW hcell hfr hr
    generalize hn : ys.length = n at *
    have HN := Lib.hid hn
    clear hn
    go_enter Try.func22, Try.ntmps22
    go_wp2
    go_loopw [4] (fun i wr => ∃ k : Nat, k ≤ n ∧ i = .int .i64 k ∧ Hid (∀ j, j < n → wr.cell? ⟨w.heap.size, 0 + j, none⟩ = some (.int .i64 (if j < k then ys.getD j 0 else 0))) ∧ Hid (∀ i, wr.frozen? ⟨w.heap.size, i, none⟩ = false) ∧ Below w.heap.size w wr ∧ w.heap.size < wr.heap.size) (fun i wr => n - (intOf i).toNat)
    case atStart => exact ⟨0, Nat.zero_le _, rfl, Lib.hid (fun j hj => by rw [if_neg (by omega)]; exact HCELL.out j hj), HFR, hBm, hsm⟩
    case round =>
      obtain ⟨k, hk, rfl, HC, HF, hB, hsz⟩ := hrel
      clear hrun
      by_cases hlt : k < n
      · have q1 : wr.cell? ⟨b, o + k, none⟩ = some (.int .i64 (ys.getD k 0)) := by
          rw [hB.cell (p := ⟨b, o + k, none⟩) hb]; exact HR.out k (by rw [HN.out]; exact hlt)
        have q2 := HC.out k hlt
        have q3 := HF.out k
        simp only [Nat.zero_add] at q2
        go_wp2
        go_roundw
        case rel => exact ⟨k + 1, by omega, by go_num, Lib.hid (fill_step hlt HC.out), Lib.hid (by intro i; have := HF.out i; go_simp), (by repeat' (first | (with_reducible exact Below.refl _ _) | (with_reducible assumption) | (with_reducible refine below_drewN ?_ _) | (with_reducible refine Below.drew ?_) | (with_reducible refine Below.alloc ?_ ?_ _) | (with_reducible refine Below.setCell ?_ ?_ _) | (with_reducible refine Below.trans ?_ (Below.mono (by with_reducible assumption) ?_)) | go_size | (dsimp only; omega))), by go_size⟩
        case measure => simp [intOf]; omega
      · obtain rfl : k = n := by omega
        go_wp2
        exact bodyPost_ret (v := .slice (some ⟨w.heap.size, 0, none⟩) k k) (by simp only [results, Try.results22]; go_simp) rfl ⟨_, rfl, .inr ⟨w.heap.size, k, by rw [HN.out], Nat.le_refl _, hsz, (by intro j hj; rw [HN.out] at hj; have := HC.out j hj; rw [if_pos hj] at this; exact this), HF.out⟩, hB⟩
end Go.Proofs.Ytmopjfjmmdnapaa
