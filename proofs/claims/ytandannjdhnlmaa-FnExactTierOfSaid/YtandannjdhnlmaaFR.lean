/- Rows of fractions and of matrices: equal, marked, held. -/
import Derived.Test.YtandannjdhnlmaaAD
import Derived.Deep.RegionHeld3
import Derived.Deep.DrawnRows
import Derived.IntWalk
namespace Go.Proofs.Ytandannjdhnlmaa
open Go.RowKit
set_option linter.unusedVariables false
set_option linter.unusedSimpArgs false
/-- a row of elements of some numbers each, that lies in a block from B on and that may be written -/
def OwnF (sz B : Nat) (w : World) (v : Value) (xs : List Int) : Prop :=
  (xs = [] ∧ ∃ p c, v = .slice p 0 c) ∨ (∃ g n c, v = .slice (some ⟨g, 0, none⟩) n c ∧ xs.length = n * sz ∧ B ≤ g ∧ g < w.heap.size ∧ RowI w g 0 xs ∧ ∀ i, w.frozen? ⟨g, i, none⟩ = false)
theorem OwnF.nil {sz B : Nat} {w : World} : OwnF sz B w (.slice none 0 0) [] := .inl ⟨rfl, none, 0, rfl⟩
theorem OwnF.of_row {sz : Nat} {w : World} {base n : Nat} {e : TypeId} {v : Value} {xs : List Int} (hs : 0 < sz) (h : w.ownsRow base e sz v n (xs.map (Value.int .i64))) : OwnF sz base w v xs := by
  have hc := @World.ownsRow.cells w base e sz v n _ h
  have hlt := h.lt
  have hl : xs.length = n * sz := by have := h.1; simpa using this
  rcases h.2 with ⟨h1, h2⟩ | ⟨g, cap, cur, hv, hb, hg, h3, h4, h5, h6⟩
  · exact .inl ⟨by rw [h2] at hl; exact List.length_eq_zero_iff.mp (by omega), _, _, by rw [h1]⟩
  · refine .inr ⟨g, n, cap, hv, hl, hb, (hlt g (by rw [hv]; rfl)).2, ?_, ?_⟩
    · intro k hk
      have := hc (g := g) (by rw [hv]; rfl) k (.int .i64 (xs.getD k 0)) (by simp [List.getElem?_eq_getElem hk, List.getD])
      by_cases hk0 : k = 0
      · subst hk0; simpa [Addr.add] using this
      · simpa [Addr.add, hk0] using this
    · intro i; simp [World.frozen?, hg]
theorem OwnF.base {sz B B' : Nat} {w : World} {v : Value} {xs : List Int} (h : OwnF sz B w v xs) (hb : B' ≤ B) : OwnF sz B' w v xs := by
  rcases h with h | ⟨g, n, c, h1, h2, h3, h4, h5, h6⟩
  · exact .inl h
  · exact .inr ⟨g, n, c, h1, h2, by omega, h4, h5, h6⟩
theorem OwnF.below {sz B C : Nat} {w w' : World} {v : Value} {xs : List Int} (h : OwnF sz B w v xs) (hb : Below C w w') (hc : w.heap.size ≤ C) : OwnF sz B w' v xs := by
  rcases h with h | ⟨g, n, c, h1, h2, h3, h4, h5, h6⟩
  · exact .inl h
  · refine .inr ⟨g, n, c, h1, h2, h3, Nat.lt_of_lt_of_le h4 hb.size, fun k hk => ?_, fun i => ?_⟩
    · rw [hb.cell (p := ⟨g, 0 + k, none⟩) (by dsimp only; omega)]; exact h5 k hk
    · rw [hb.frozen (p := ⟨g, i, none⟩) (by dsimp only; omega)]; exact h6 i
theorem OwnF.below_at {sz B B0 C : Nat} {w w' w0 : World} {v : Value} {xs : List Int} (h : OwnF sz B w v xs) (h0 : OwnF sz B0 w0 v xs) (hz : w0.heap.size ≤ C) (hb : Below C w w') : OwnF sz B w' v xs := by
  rcases h with h | ⟨g, n, c, h1, h2, h3, h4, h5, h6⟩
  · exact .inl h
  · rcases h0 with ⟨e, p, c', h1'⟩ | ⟨g', n', c', h1', _, _, h4', _, _⟩
    · subst e; rw [h1] at h1'; injection h1' with e1 e2 e3; exact .inl ⟨rfl, _, _, by rw [h1, e2]⟩
    · rw [h1] at h1'
      obtain rfl : g = g' := by injection h1' with e; injection e with e; injection e
      refine .inr ⟨g, n, c, h1, h2, h3, Nat.lt_of_lt_of_le h4 hb.size, fun k hk => ?_, fun i => ?_⟩
      · rw [hb.cell (p := ⟨g, 0 + k, none⟩) (by dsimp only; omega)]; exact h5 k hk
      · rw [hb.frozen (p := ⟨g, i, none⟩) (by dsimp only; omega)]; exact h6 i
theorem markF_step {wr : World} {b n k : Nat} {k0 : Int} {zs : List Int} (hk : k < n) (h : ∀ j, j < n → wr.cell? ⟨b, 0 + j, none⟩ = some (.int .i64 (if j < k then k0 + (j : Int) else zs.getD j 0))) {x : Int} (hx : x = k0 + (k : Int)) {o : Nat} (ho : o = k) :
    ∀ j, j < n → (wr.setCell ⟨b, o, none⟩ (.int .i64 x)).cell? ⟨b, 0 + j, none⟩ = some (.int .i64 (if j < k + 1 then k0 + (j : Int) else zs.getD j 0)) := by
  subst hx ho
  intro j hj
  have hk' := h o hk
  have hj' := h j hj
  simp only [Nat.zero_add] at hk' hj' ⊢
  by_cases e : j = o
  · subst e
    rw [if_pos (by omega)]
    go_simp
  · have hne' : ¬ o = j := by omega
    have hif : (if j < o + 1 then k0 + (j : Int) else zs.getD j 0) = (if j < o then k0 + (j : Int) else zs.getD j 0) := by
      by_cases c : j < o
      · rw [if_pos c, if_pos (by omega)]
      · rw [if_neg c, if_neg (by omega)]
    rw [hif, ← hj']
    go_simp
set_option maxRecDepth 100000 in
set_option maxHeartbeats 4000000 in
theorem eqF_c (v1 v2 : Value) (B1 B2 : Nat) (xs : List Int) (w : World) (hm : xs.length ≤ 1000000000000) (h1 : OwnF 2 B1 w v1 xs) (h2 : OwnF 2 B2 w v2 xs) :
    Calls Try.prog 6 #[v1, v2] w fun e w' => e = .returned (.bool true) ∧ Below w.heap.size w w' := by
  have empty : ∀ p1 c1 p2 c2, Calls Try.prog 6 #[.slice p1 0 c1, .slice p2 0 c2] w fun e w' => e = .returned (.bool true) ∧ Below w.heap.size w w' := by
    intro p1 c1 p2 c2
    go_enter Try.func6, Try.ntmps6
    go_wp2
    refine wp_loop_rounds 1 ?_
    rw [rounds_succ]
    go_wp2
    go_ret
    exact ⟨rfl, Below.refl _ _⟩
  rcases h1 with ⟨rfl, p1, c1, rfl⟩ | ⟨g1, n, c1, rfl, hl1, -, b1, r1, -⟩
  · rcases h2 with ⟨-, p2, c2, rfl⟩ | ⟨g2, n2, c2, rfl, hl2, -, b2, r2, -⟩
    · exact empty _ _ _ _
    · obtain rfl : n2 = 0 := by simp at hl2; omega
      exact empty _ _ _ _
  rcases h2 with ⟨rfl, p2, c2, rfl⟩ | ⟨g2, n2, c2, rfl, hl2, -, b2, r2, -⟩
  · obtain rfl : n = 0 := by simp at hl1; omega
    exact empty _ _ _ _
  obtain rfl : n2 = n := by omega
  have R1 := Lib.hid r1
  have R2 := Lib.hid r2
  have HL := Lib.hid hl1
  have hn2 : n2 ≤ 1000000000000 := by omega
  clear r1 r2 hl1 hl2 empty hm
  go_enter Try.func6, Try.ntmps6
  go_wp2
  go_loopw [5] (fun i wr => ∃ k : Nat, k ≤ n2 ∧ i = .int .i64 k ∧ Below w.heap.size w wr) (fun i wr => n2 - (intOf i).toNat)
  case atStart => exact ⟨0, Nat.zero_le _, rfl, Below.refl _ _⟩
  case round =>
    obtain ⟨k, hk, rfl, hB⟩ := hrel
    by_cases hlt : k < n2
    · have hlen : k * 2 + 2 ≤ xs.length := by rw [HL.out]; omega
      have hk0 : (0 : Int) ≤ (k : Int) := by omega
      have hkn : (k : Int) < (n2 : Int) := by omega
      have q10 : wr.cell? ⟨g1, k * 2, none⟩ = some (.int .i64 (xs.getD (k * 2) 0)) := by rw [hB.cell (p := ⟨g1, _, none⟩) b1]; have h := R1.out (k * 2) (by omega); simpa only [Nat.zero_add] using h
      have q11 : wr.cell? ⟨g1, k * 2 + 1, none⟩ = some (.int .i64 (xs.getD (k * 2 + 1) 0)) := by rw [hB.cell (p := ⟨g1, _, none⟩) b1]; have h := R1.out (k * 2 + 1) (by omega); simpa only [Nat.zero_add] using h
      have q20 : wr.cell? ⟨g2, k * 2, none⟩ = some (.int .i64 (xs.getD (k * 2) 0)) := by rw [hB.cell (p := ⟨g2, _, none⟩) b2]; have h := R2.out (k * 2) (by omega); simpa only [Nat.zero_add] using h
      have q21 : wr.cell? ⟨g2, k * 2 + 1, none⟩ = some (.int .i64 (xs.getD (k * 2 + 1) 0)) := by rw [hB.cell (p := ⟨g2, _, none⟩) b2]; have h := R2.out (k * 2 + 1) (by omega); simpa only [Nat.zero_add] using h
      clear hlen
      generalize xs.getD (k * 2) 0 = y0 at *
      generalize xs.getD (k * 2 + 1) 0 = y1 at *
      go_wp2
      go_region_held3 (fun w' => w'.cell? ⟨g1, k * 2, none⟩ = some (.int .i64 y0) ∧ w'.cell? ⟨g1, k * 2 + 1, none⟩ = some (.int .i64 y1) ∧ w'.cell? ⟨g2, k * 2, none⟩ = some (.int .i64 y0) ∧ w'.cell? ⟨g2, k * 2 + 1, none⟩ = some (.int .i64 y1)) (first | go_keep | (go_split_ands; refine ⟨?_, ?_, ?_, ?_⟩ <;> first | (with_reducible assumption) | (with_reducible exact held_cell hb (by with_reducible assumption)))) ((go_at_call 16; refine (eqFraction_same _ _ _).mono ?_; rintro e w3 ⟨rfl, hb⟩))
      go_wp2
      go_roundw
      case rel => exact ⟨k + 1, by omega, by go_num, Below.trans (Below.drew hB) (Below.mono hb (by have := hB.size; simp; omega))⟩
      case measure => simp [intOf]; omega
    · go_wp2
      go_ret
      exact ⟨rfl, hB⟩
set_option maxRecDepth 100000 in
set_option maxHeartbeats 4000000 in
theorem markF_c (v : Value) (B : Nat) (k0 : Int) (xs : List Int) (w : World) (hm : xs.length ≤ 1000000000000) (hk0 : 0 ≤ k0) (hk1 : k0 ≤ 1000000000000) (h : OwnF 2 B w v xs) :
    Calls Try.prog 7 #[v, .int .i64 k0] w fun e w' => e = .returned (.int .i64 (k0 + (xs.length : Int))) ∧ OwnF 2 B w' v (marks k0 xs) ∧ Below B w w' ∧ w'.heap.size = w.heap.size := by
  rcases h with ⟨rfl, p, c, rfl⟩ | ⟨g, n, c, rfl, hl, hb, hs, r, f⟩
  · have : Calls Try.prog 7 #[.slice p 0 c, .int .i64 k0] w fun e w' => e = .returned (.int .i64 k0) ∧ w = w' := by
      go_enter Try.func7, Try.ntmps7
      go_wp2
      refine wp_loop_rounds 1 ?_
      rw [rounds_succ]
      go_wp2
      go_ret
      exact ⟨rfl, rfl⟩
    refine this.mono ?_
    rintro e w' ⟨rfl, rfl⟩
    exact ⟨by simp, .inl ⟨by simp [marks], p, c, rfl⟩, Below.refl _ _, rfl⟩
  · have HR := Lib.hid r
    have HF := Lib.hid f
    have hnb : n ≤ 1000000000000 := by omega
    have HL := Lib.hid hl
    suffices H : Calls Try.prog 7 #[.slice (some ⟨g, 0, none⟩) n c, .int .i64 k0] w fun e w' => e = .returned (.int .i64 (k0 + ((n * 2 : Nat) : Int))) ∧ (∀ j, j < n * 2 → w'.cell? ⟨g, 0 + j, none⟩ = some (.int .i64 (k0 + (j : Int)))) ∧ (∀ i, w'.frozen? ⟨g, i, none⟩ = false) ∧ Below B w w' ∧ w'.heap.size = w.heap.size by
      refine H.mono ?_
      rintro e w' ⟨he, h1, h2, h3, h4⟩
      refine ⟨by rw [hl]; exact he, .inr ⟨g, n, c, rfl, by rw [marks_len]; exact hl, hb, by rw [h4]; exact hs, ?_, h2⟩, h3, h4⟩
      intro j hj
      rw [marks_len] at hj
      rw [marks_at _ _ _ hj]
      exact h1 j (by rw [← hl]; exact hj)
    clear r f hl hm
    go_enter Try.func7, Try.ntmps7
    go_wp2
    go_loopw [1, 5] (fun x i wr => ∃ k : Nat, k ≤ n ∧ i = .int .i64 k ∧ x = .int .i64 (k0 + ((k * 2 : Nat) : Int)) ∧ Hid (∀ j, j < n * 2 → wr.cell? ⟨g, 0 + j, none⟩ = some (.int .i64 (if j < k * 2 then k0 + (j : Int) else xs.getD j 0))) ∧ Hid (∀ i, wr.frozen? ⟨g, i, none⟩ = false) ∧ Hid (wr.heap.size = w.heap.size) ∧ Hid (Below B w wr)) (fun x i wr => n - (intOf i).toNat)
    case atStart => exact ⟨0, Nat.zero_le _, rfl, by simp, Lib.hid (by intro j hj; rw [if_neg (by omega)]; exact HR.out j (by rw [HL.out]; exact hj)), HF, Lib.hid rfl, Lib.hid (Below.refl _ _)⟩
    case round =>
      obtain ⟨k, hk, rfl, rfl, HC, HF', HS, HB⟩ := hrel
      by_cases hlt : k < n
      · have hkn : (k : Int) < (n : Int) := by omega
        have hlen : k * 2 + 2 ≤ n * 2 := by omega
        generalize hkx : k0 + ((k * 2 : Nat) : Int) = kx at *
        have hkx0 : 0 ≤ kx := by omega
        have hkx1 : kx ≤ 5000000000000 := by omega
        have q0 := HC.out (k * 2) (by omega); simp only [Nat.zero_add] at q0
        have q1 := HC.out (k * 2 + 1) (by omega); simp only [Nat.zero_add] at q1
        have p0 := HF'.out (k * 2)
        have p1 := HF'.out (k * 2 + 1)
        have HKX := Lib.hid hkx
        clear hkx
        go_wp2
        refine wp_loop_rounds 3 ?_
        rw [rounds_succ]
        go_wp2
        rw [rounds_succ]
        go_wp2
        rw [rounds_succ]
        go_wp2
        go_wp2
        go_roundw
        case rel => exact ⟨k + 1, by omega, by go_num, (by rw [show kx + 1 + 1 = k0 + (((k + 1) * 2 : Nat) : Int) from by have := HKX.out; omega]), Lib.hid (by have s1 := markF_step (k := k * 2) (by omega) HC.out (x := kx) (by have := HKX.out; omega) rfl; have s2 := markF_step (k := k * 2 + 1) (by omega) s1 (x := kx + 1) (by have := HKX.out; omega) rfl; rw [show (k + 1) * 2 = k * 2 + 1 + 1 by omega]; exact s2), Lib.hid (by intro i; have := HF'.out i; go_simp), Lib.hid (by have := HS.out; show (World.setCell _ _ _).heap.size = _; simpa using this), Lib.hid (Below.setCell (Below.setCell (HB.out) hb _) hb _)⟩
        case measure => simp [intOf]; omega
      · obtain rfl : k = n := by omega
        go_wp2
        go_ret
        exact ⟨rfl, (by intro j hj; have := HC.out j hj; rw [if_pos hj] at this; exact this), HF'.out, HB.out, HS.out⟩
set_option maxRecDepth 100000 in
set_option maxHeartbeats 4000000 in
theorem heldF_c (v : Value) (B : Nat) (k0 : Int) (xs : List Int) (w : World) (hm : xs.length ≤ 1000000000000) (hk0 : 0 ≤ k0) (hk1 : k0 ≤ 1000000000000) (h : OwnF 2 B w v (marks k0 xs)) :
    Calls Try.prog 8 #[v, .int .i64 k0] w fun e w' => e = .returned (.int .i64 (k0 + (xs.length : Int))) ∧ w = w' := by
  rcases h with ⟨h0, p, c, rfl⟩ | ⟨g, n, c, rfl, hl, hb, hs, r, f⟩
  · have e0 : xs.length = 0 := by rw [← marks_len k0 xs, h0]; rfl
    have : Calls Try.prog 8 #[.slice p 0 c, .int .i64 k0] w fun e w' => e = .returned (.int .i64 k0) ∧ w = w' := by
      go_enter Try.func8, Try.ntmps8
      go_wp2
      refine wp_loop_rounds 1 ?_
      rw [rounds_succ]
      go_wp2
      go_ret
      exact ⟨rfl, rfl⟩
    refine this.mono ?_
    rintro e w' ⟨rfl, rfl⟩
    exact ⟨by rw [e0]; simp, rfl⟩
  · rw [marks_len] at hl
    rw [hl]
    have hr2 : ∀ j, j < n * 2 → w.cell? ⟨g, j, none⟩ = some (.int .i64 (k0 + (j : Int))) := by
      intro j hj
      have h1 := r j (by rw [marks_len, hl]; exact hj)
      rw [marks_at _ _ _ (by rw [hl]; exact hj)] at h1
      simpa only [Nat.zero_add] using h1
    have HR := Lib.hid hr2
    have hnb : n ≤ 1000000000000 := by omega
    clear r f hl hm hr2
    go_enter Try.func8, Try.ntmps8
    go_wp2
    go_loop [1, 5] (fun x i => ∃ k : Nat, k ≤ n ∧ i = .int .i64 k ∧ x = .int .i64 (k0 + ((k * 2 : Nat) : Int))) (fun x i => n - (intOf i).toNat)
    case atStart => exact ⟨0, Nat.zero_le _, rfl, by simp⟩
    case round =>
      obtain ⟨k, hk, rfl, rfl⟩ := hrel
      by_cases hlt : k < n
      · have hkn : (k : Int) < (n : Int) := by omega
        generalize hkx : k0 + ((k * 2 : Nat) : Int) = kx at *
        have hkx0 : 0 ≤ kx := by omega
        have hkx1 : kx ≤ 5000000000000 := by omega
        have q0 : w.cell? ⟨g, k * 2, none⟩ = some (.int .i64 (kx)) := by have h := HR.out (k * 2) (by omega); rw [show k0 + ((k * 2 : Nat) : Int) = kx from by omega] at h; exact h
        have q1 : w.cell? ⟨g, k * 2 + 1, none⟩ = some (.int .i64 (kx + 1)) := by have h := HR.out (k * 2 + 1) (by omega); rw [show k0 + ((k * 2 + 1 : Nat) : Int) = kx + 1 from by omega] at h; exact h
        have HKX := Lib.hid hkx
        clear hkx
        go_wp2
        refine wp_loop_rounds 3 ?_
        rw [rounds_succ]
        go_wp2
        rw [rounds_succ]
        go_wp2
        rw [rounds_succ]
        go_wp2
        go_wp2
        go_round
        case rel => exact ⟨k + 1, by omega, by go_num, (by rw [show kx + 1 + 1 = k0 + (((k + 1) * 2 : Nat) : Int) from by have := HKX.out; omega])⟩
        case measure => simp [intOf]; omega
      · obtain rfl : k = n := by omega
        go_wp2
        go_ret
        exact ⟨rfl, rfl⟩
end Go.Proofs.Ytandannjdhnlmaa
