/- Products of two, three, four matrices; the exported functions that give them. -/
import Derived.Test.YtlkhhpckgcdeeaaGreatDoorQ
import Derived.Deep.RegionHeld3
namespace Go.Proofs.YtlkhhpckgcdeeaaGreatDoor
open Go.RowKit
set_option linter.unusedVariables false
set_option linter.unusedSimpArgs false
attribute [local go_sem] run_min_int4 run_max_int4
attribute [local go_sem] run_equalIn_M
theorem keep_drew {w : World} {a : Addr} {v : Value} (h : w.cell? a = some v) : w.drew.cell? a = some v := h
theorem prodV_form (o : Option M4) : ∃ a b c d e : Int, prodV o = .tuple #[.agg #[.int .i64 a, .int .i64 b, .int .i64 c, .int .i64 d], .int .i64 e] := by
  cases o with
  | none => exact ⟨_, _, _, _, _, rfl⟩
  | some m => exact ⟨_, _, _, _, _, rfl⟩
theorem isM_ent {p q r s : Int} (h : isM p q r s = true) : M4.ent ⟨p, q, r, s⟩ = true := by
  obtain ⟨h1, h2, h3, h4, -⟩ := isM_iff.mp h
  exact M4.ent_iff.mpr ⟨ent_iff.mpr h1, ent_iff.mpr h2, ent_iff.mpr h3, ent_iff.mpr h4⟩
theorem ents4 {a b c d : Int} (h1 : -1000000000 ≤ a ∧ a ≤ 1000000000) (h2 : -1000000000 ≤ b ∧ b ≤ 1000000000) (h3 : -1000000000 ≤ c ∧ c ≤ 1000000000) (h4 : -1000000000 ≤ d ∧ d ≤ 1000000000) : M4.ent ⟨a, b, c, d⟩ = true :=
  M4.ent_iff.mpr ⟨ent_iff.mpr h1, ent_iff.mpr h2, ent_iff.mpr h3, ent_iff.mpr h4⟩
theorem inv_ent {p q r s : Int} (h : isM p q r s = true) : M4.ent ⟨s, -q, -r, p⟩ = true := by
  obtain ⟨h1, h2, h3, h4, -⟩ := isM_iff.mp h
  exact ents4 h4 (by omega) (by omega) h1
theorem rowM_2 {w : World} {b : Nat} {p0 q0 r0 s0 p1 q1 r1 s1 : Int} (h0 : w.cell? ⟨b, 0, none⟩ = some (.int .i64 p0)) (h1 : w.cell? ⟨b, 1, none⟩ = some (.int .i64 q0)) (h2 : w.cell? ⟨b, 2, none⟩ = some (.int .i64 r0)) (h3 : w.cell? ⟨b, 3, none⟩ = some (.int .i64 s0)) (h4 : w.cell? ⟨b, 4, none⟩ = some (.int .i64 p1)) (h5 : w.cell? ⟨b, 5, none⟩ = some (.int .i64 q1)) (h6 : w.cell? ⟨b, 6, none⟩ = some (.int .i64 r1)) (h7 : w.cell? ⟨b, 7, none⟩ = some (.int .i64 s1)) : RowM w b 0 [⟨p0, q0, r0, s0⟩, ⟨p1, q1, r1, s1⟩] := by
  intro k m hk
  match k, hk with
  | 0, hk =>
    simp at hk
    subst hk
    exact ⟨by simpa using h0, by simpa using h1, by simpa using h2, by simpa using h3⟩
  | 1, hk =>
    simp at hk
    subst hk
    exact ⟨by simpa using h4, by simpa using h5, by simpa using h6, by simpa using h7⟩
  | k + 2, hk => simp at hk
theorem product_2 (b : Nat) (p0 q0 r0 s0 p1 q1 r1 s1 : Int) (w : World) (e0 : M4.ent ⟨p0, q0, r0, s0⟩ = true) (e1 : M4.ent ⟨p1, q1, r1, s1⟩ = true) (h0 : w.cell? ⟨b, 0, none⟩ = some (.int .i64 p0)) (h1 : w.cell? ⟨b, 1, none⟩ = some (.int .i64 q0)) (h2 : w.cell? ⟨b, 2, none⟩ = some (.int .i64 r0)) (h3 : w.cell? ⟨b, 3, none⟩ = some (.int .i64 s0)) (h4 : w.cell? ⟨b, 4, none⟩ = some (.int .i64 p1)) (h5 : w.cell? ⟨b, 5, none⟩ = some (.int .i64 q1)) (h6 : w.cell? ⟨b, 6, none⟩ = some (.int .i64 r1)) (h7 : w.cell? ⟨b, 7, none⟩ = some (.int .i64 s1)) :
    Calls Tryz.prog 103 #[.slice (some ⟨b, 0, none⟩) 2 2] w fun e w' => e = .returned (prodV (prodL M4.I [⟨p0, q0, r0, s0⟩, ⟨p1, q1, r1, s1⟩])) ∧ Below w.heap.size w w' :=
  product_c b 0 2 2 [⟨p0, q0, r0, s0⟩, ⟨p1, q1, r1, s1⟩] w rfl (by omega) (World.block_lt_of_cell? w _ h0) (rowM_2 h0 h1 h2 h3 h4 h5 h6 h7) (by intro m hm; simp only [List.mem_cons, List.not_mem_nil, or_false] at hm; rcases hm with rfl | rfl <;> assumption)
theorem l01Product_2 (b : Nat) (p0 q0 r0 s0 p1 q1 r1 s1 : Int) (w : World) (e0 : M4.ent ⟨p0, q0, r0, s0⟩ = true) (e1 : M4.ent ⟨p1, q1, r1, s1⟩ = true) (h0 : w.cell? ⟨b, 0, none⟩ = some (.int .i64 p0)) (h1 : w.cell? ⟨b, 1, none⟩ = some (.int .i64 q0)) (h2 : w.cell? ⟨b, 2, none⟩ = some (.int .i64 r0)) (h3 : w.cell? ⟨b, 3, none⟩ = some (.int .i64 s0)) (h4 : w.cell? ⟨b, 4, none⟩ = some (.int .i64 p1)) (h5 : w.cell? ⟨b, 5, none⟩ = some (.int .i64 q1)) (h6 : w.cell? ⟨b, 6, none⟩ = some (.int .i64 r1)) (h7 : w.cell? ⟨b, 7, none⟩ = some (.int .i64 s1)) :
    Calls Tryz.prog 79 #[.slice (some ⟨b, 0, none⟩) 2 2] w fun e w' => e = .returned (prodV (prodL M4.I [⟨p0, q0, r0, s0⟩, ⟨p1, q1, r1, s1⟩])) ∧ Below w.heap.size w w' :=
  l01Product_c b 0 2 2 _ _ w rfl (by omega) (World.block_lt_of_cell? w _ h0) (rowM_2 h0 h1 h2 h3 h4 h5 h6 h7) (by intro m hm; simp only [List.mem_cons, List.not_mem_nil, or_false] at hm; rcases hm with rfl | rfl <;> assumption)
theorem rowM_3 {w : World} {b : Nat} {p0 q0 r0 s0 p1 q1 r1 s1 p2 q2 r2 s2 : Int} (h0 : w.cell? ⟨b, 0, none⟩ = some (.int .i64 p0)) (h1 : w.cell? ⟨b, 1, none⟩ = some (.int .i64 q0)) (h2 : w.cell? ⟨b, 2, none⟩ = some (.int .i64 r0)) (h3 : w.cell? ⟨b, 3, none⟩ = some (.int .i64 s0)) (h4 : w.cell? ⟨b, 4, none⟩ = some (.int .i64 p1)) (h5 : w.cell? ⟨b, 5, none⟩ = some (.int .i64 q1)) (h6 : w.cell? ⟨b, 6, none⟩ = some (.int .i64 r1)) (h7 : w.cell? ⟨b, 7, none⟩ = some (.int .i64 s1)) (h8 : w.cell? ⟨b, 8, none⟩ = some (.int .i64 p2)) (h9 : w.cell? ⟨b, 9, none⟩ = some (.int .i64 q2)) (h10 : w.cell? ⟨b, 10, none⟩ = some (.int .i64 r2)) (h11 : w.cell? ⟨b, 11, none⟩ = some (.int .i64 s2)) : RowM w b 0 [⟨p0, q0, r0, s0⟩, ⟨p1, q1, r1, s1⟩, ⟨p2, q2, r2, s2⟩] := by
  intro k m hk
  match k, hk with
  | 0, hk =>
    simp at hk
    subst hk
    exact ⟨by simpa using h0, by simpa using h1, by simpa using h2, by simpa using h3⟩
  | 1, hk =>
    simp at hk
    subst hk
    exact ⟨by simpa using h4, by simpa using h5, by simpa using h6, by simpa using h7⟩
  | 2, hk =>
    simp at hk
    subst hk
    exact ⟨by simpa using h8, by simpa using h9, by simpa using h10, by simpa using h11⟩
  | k + 3, hk => simp at hk
theorem product_3 (b : Nat) (p0 q0 r0 s0 p1 q1 r1 s1 p2 q2 r2 s2 : Int) (w : World) (e0 : M4.ent ⟨p0, q0, r0, s0⟩ = true) (e1 : M4.ent ⟨p1, q1, r1, s1⟩ = true) (e2 : M4.ent ⟨p2, q2, r2, s2⟩ = true) (h0 : w.cell? ⟨b, 0, none⟩ = some (.int .i64 p0)) (h1 : w.cell? ⟨b, 1, none⟩ = some (.int .i64 q0)) (h2 : w.cell? ⟨b, 2, none⟩ = some (.int .i64 r0)) (h3 : w.cell? ⟨b, 3, none⟩ = some (.int .i64 s0)) (h4 : w.cell? ⟨b, 4, none⟩ = some (.int .i64 p1)) (h5 : w.cell? ⟨b, 5, none⟩ = some (.int .i64 q1)) (h6 : w.cell? ⟨b, 6, none⟩ = some (.int .i64 r1)) (h7 : w.cell? ⟨b, 7, none⟩ = some (.int .i64 s1)) (h8 : w.cell? ⟨b, 8, none⟩ = some (.int .i64 p2)) (h9 : w.cell? ⟨b, 9, none⟩ = some (.int .i64 q2)) (h10 : w.cell? ⟨b, 10, none⟩ = some (.int .i64 r2)) (h11 : w.cell? ⟨b, 11, none⟩ = some (.int .i64 s2)) :
    Calls Tryz.prog 103 #[.slice (some ⟨b, 0, none⟩) 3 3] w fun e w' => e = .returned (prodV (prodL M4.I [⟨p0, q0, r0, s0⟩, ⟨p1, q1, r1, s1⟩, ⟨p2, q2, r2, s2⟩])) ∧ Below w.heap.size w w' :=
  product_c b 0 3 3 [⟨p0, q0, r0, s0⟩, ⟨p1, q1, r1, s1⟩, ⟨p2, q2, r2, s2⟩] w rfl (by omega) (World.block_lt_of_cell? w _ h0) (rowM_3 h0 h1 h2 h3 h4 h5 h6 h7 h8 h9 h10 h11) (by intro m hm; simp only [List.mem_cons, List.not_mem_nil, or_false] at hm; rcases hm with rfl | rfl | rfl <;> assumption)
theorem l01Product_3 (b : Nat) (p0 q0 r0 s0 p1 q1 r1 s1 p2 q2 r2 s2 : Int) (w : World) (e0 : M4.ent ⟨p0, q0, r0, s0⟩ = true) (e1 : M4.ent ⟨p1, q1, r1, s1⟩ = true) (e2 : M4.ent ⟨p2, q2, r2, s2⟩ = true) (h0 : w.cell? ⟨b, 0, none⟩ = some (.int .i64 p0)) (h1 : w.cell? ⟨b, 1, none⟩ = some (.int .i64 q0)) (h2 : w.cell? ⟨b, 2, none⟩ = some (.int .i64 r0)) (h3 : w.cell? ⟨b, 3, none⟩ = some (.int .i64 s0)) (h4 : w.cell? ⟨b, 4, none⟩ = some (.int .i64 p1)) (h5 : w.cell? ⟨b, 5, none⟩ = some (.int .i64 q1)) (h6 : w.cell? ⟨b, 6, none⟩ = some (.int .i64 r1)) (h7 : w.cell? ⟨b, 7, none⟩ = some (.int .i64 s1)) (h8 : w.cell? ⟨b, 8, none⟩ = some (.int .i64 p2)) (h9 : w.cell? ⟨b, 9, none⟩ = some (.int .i64 q2)) (h10 : w.cell? ⟨b, 10, none⟩ = some (.int .i64 r2)) (h11 : w.cell? ⟨b, 11, none⟩ = some (.int .i64 s2)) :
    Calls Tryz.prog 79 #[.slice (some ⟨b, 0, none⟩) 3 3] w fun e w' => e = .returned (prodV (prodL M4.I [⟨p0, q0, r0, s0⟩, ⟨p1, q1, r1, s1⟩, ⟨p2, q2, r2, s2⟩])) ∧ Below w.heap.size w w' :=
  l01Product_c b 0 3 3 _ _ w rfl (by omega) (World.block_lt_of_cell? w _ h0) (rowM_3 h0 h1 h2 h3 h4 h5 h6 h7 h8 h9 h10 h11) (by intro m hm; simp only [List.mem_cons, List.not_mem_nil, or_false] at hm; rcases hm with rfl | rfl | rfl <;> assumption)
theorem rowM_4 {w : World} {b : Nat} {p0 q0 r0 s0 p1 q1 r1 s1 p2 q2 r2 s2 p3 q3 r3 s3 : Int} (h0 : w.cell? ⟨b, 0, none⟩ = some (.int .i64 p0)) (h1 : w.cell? ⟨b, 1, none⟩ = some (.int .i64 q0)) (h2 : w.cell? ⟨b, 2, none⟩ = some (.int .i64 r0)) (h3 : w.cell? ⟨b, 3, none⟩ = some (.int .i64 s0)) (h4 : w.cell? ⟨b, 4, none⟩ = some (.int .i64 p1)) (h5 : w.cell? ⟨b, 5, none⟩ = some (.int .i64 q1)) (h6 : w.cell? ⟨b, 6, none⟩ = some (.int .i64 r1)) (h7 : w.cell? ⟨b, 7, none⟩ = some (.int .i64 s1)) (h8 : w.cell? ⟨b, 8, none⟩ = some (.int .i64 p2)) (h9 : w.cell? ⟨b, 9, none⟩ = some (.int .i64 q2)) (h10 : w.cell? ⟨b, 10, none⟩ = some (.int .i64 r2)) (h11 : w.cell? ⟨b, 11, none⟩ = some (.int .i64 s2)) (h12 : w.cell? ⟨b, 12, none⟩ = some (.int .i64 p3)) (h13 : w.cell? ⟨b, 13, none⟩ = some (.int .i64 q3)) (h14 : w.cell? ⟨b, 14, none⟩ = some (.int .i64 r3)) (h15 : w.cell? ⟨b, 15, none⟩ = some (.int .i64 s3)) : RowM w b 0 [⟨p0, q0, r0, s0⟩, ⟨p1, q1, r1, s1⟩, ⟨p2, q2, r2, s2⟩, ⟨p3, q3, r3, s3⟩] := by
  intro k m hk
  match k, hk with
  | 0, hk =>
    simp at hk
    subst hk
    exact ⟨by simpa using h0, by simpa using h1, by simpa using h2, by simpa using h3⟩
  | 1, hk =>
    simp at hk
    subst hk
    exact ⟨by simpa using h4, by simpa using h5, by simpa using h6, by simpa using h7⟩
  | 2, hk =>
    simp at hk
    subst hk
    exact ⟨by simpa using h8, by simpa using h9, by simpa using h10, by simpa using h11⟩
  | 3, hk =>
    simp at hk
    subst hk
    exact ⟨by simpa using h12, by simpa using h13, by simpa using h14, by simpa using h15⟩
  | k + 4, hk => simp at hk
theorem product_4 (b : Nat) (p0 q0 r0 s0 p1 q1 r1 s1 p2 q2 r2 s2 p3 q3 r3 s3 : Int) (w : World) (e0 : M4.ent ⟨p0, q0, r0, s0⟩ = true) (e1 : M4.ent ⟨p1, q1, r1, s1⟩ = true) (e2 : M4.ent ⟨p2, q2, r2, s2⟩ = true) (e3 : M4.ent ⟨p3, q3, r3, s3⟩ = true) (h0 : w.cell? ⟨b, 0, none⟩ = some (.int .i64 p0)) (h1 : w.cell? ⟨b, 1, none⟩ = some (.int .i64 q0)) (h2 : w.cell? ⟨b, 2, none⟩ = some (.int .i64 r0)) (h3 : w.cell? ⟨b, 3, none⟩ = some (.int .i64 s0)) (h4 : w.cell? ⟨b, 4, none⟩ = some (.int .i64 p1)) (h5 : w.cell? ⟨b, 5, none⟩ = some (.int .i64 q1)) (h6 : w.cell? ⟨b, 6, none⟩ = some (.int .i64 r1)) (h7 : w.cell? ⟨b, 7, none⟩ = some (.int .i64 s1)) (h8 : w.cell? ⟨b, 8, none⟩ = some (.int .i64 p2)) (h9 : w.cell? ⟨b, 9, none⟩ = some (.int .i64 q2)) (h10 : w.cell? ⟨b, 10, none⟩ = some (.int .i64 r2)) (h11 : w.cell? ⟨b, 11, none⟩ = some (.int .i64 s2)) (h12 : w.cell? ⟨b, 12, none⟩ = some (.int .i64 p3)) (h13 : w.cell? ⟨b, 13, none⟩ = some (.int .i64 q3)) (h14 : w.cell? ⟨b, 14, none⟩ = some (.int .i64 r3)) (h15 : w.cell? ⟨b, 15, none⟩ = some (.int .i64 s3)) :
    Calls Tryz.prog 103 #[.slice (some ⟨b, 0, none⟩) 4 4] w fun e w' => e = .returned (prodV (prodL M4.I [⟨p0, q0, r0, s0⟩, ⟨p1, q1, r1, s1⟩, ⟨p2, q2, r2, s2⟩, ⟨p3, q3, r3, s3⟩])) ∧ Below w.heap.size w w' :=
  product_c b 0 4 4 [⟨p0, q0, r0, s0⟩, ⟨p1, q1, r1, s1⟩, ⟨p2, q2, r2, s2⟩, ⟨p3, q3, r3, s3⟩] w rfl (by omega) (World.block_lt_of_cell? w _ h0) (rowM_4 h0 h1 h2 h3 h4 h5 h6 h7 h8 h9 h10 h11 h12 h13 h14 h15) (by intro m hm; simp only [List.mem_cons, List.not_mem_nil, or_false] at hm; rcases hm with rfl | rfl | rfl | rfl <;> assumption)
theorem l01Product_4 (b : Nat) (p0 q0 r0 s0 p1 q1 r1 s1 p2 q2 r2 s2 p3 q3 r3 s3 : Int) (w : World) (e0 : M4.ent ⟨p0, q0, r0, s0⟩ = true) (e1 : M4.ent ⟨p1, q1, r1, s1⟩ = true) (e2 : M4.ent ⟨p2, q2, r2, s2⟩ = true) (e3 : M4.ent ⟨p3, q3, r3, s3⟩ = true) (h0 : w.cell? ⟨b, 0, none⟩ = some (.int .i64 p0)) (h1 : w.cell? ⟨b, 1, none⟩ = some (.int .i64 q0)) (h2 : w.cell? ⟨b, 2, none⟩ = some (.int .i64 r0)) (h3 : w.cell? ⟨b, 3, none⟩ = some (.int .i64 s0)) (h4 : w.cell? ⟨b, 4, none⟩ = some (.int .i64 p1)) (h5 : w.cell? ⟨b, 5, none⟩ = some (.int .i64 q1)) (h6 : w.cell? ⟨b, 6, none⟩ = some (.int .i64 r1)) (h7 : w.cell? ⟨b, 7, none⟩ = some (.int .i64 s1)) (h8 : w.cell? ⟨b, 8, none⟩ = some (.int .i64 p2)) (h9 : w.cell? ⟨b, 9, none⟩ = some (.int .i64 q2)) (h10 : w.cell? ⟨b, 10, none⟩ = some (.int .i64 r2)) (h11 : w.cell? ⟨b, 11, none⟩ = some (.int .i64 s2)) (h12 : w.cell? ⟨b, 12, none⟩ = some (.int .i64 p3)) (h13 : w.cell? ⟨b, 13, none⟩ = some (.int .i64 q3)) (h14 : w.cell? ⟨b, 14, none⟩ = some (.int .i64 r3)) (h15 : w.cell? ⟨b, 15, none⟩ = some (.int .i64 s3)) :
    Calls Tryz.prog 79 #[.slice (some ⟨b, 0, none⟩) 4 4] w fun e w' => e = .returned (prodV (prodL M4.I [⟨p0, q0, r0, s0⟩, ⟨p1, q1, r1, s1⟩, ⟨p2, q2, r2, s2⟩, ⟨p3, q3, r3, s3⟩])) ∧ Below w.heap.size w w' :=
  l01Product_c b 0 4 4 _ _ w rfl (by omega) (World.block_lt_of_cell? w _ h0) (rowM_4 h0 h1 h2 h3 h4 h5 h6 h7 h8 h9 h10 h11 h12 h13 h14 h15) (by intro m hm; simp only [List.mem_cons, List.not_mem_nil, or_false] at hm; rcases hm with rfl | rfl | rfl | rfl <;> assumption)
set_option maxHeartbeats 1000000 in
theorem ProductOf_no (p q r s p' q' r' s' : Int) (w : World) (h : (isM p q r s && isM p' q' r' s') = false) :
    Calls Tryz.prog 38 #[.agg #[.int .i64 p, .int .i64 q, .int .i64 r, .int .i64 s], .agg #[.int .i64 p', .int .i64 q', .int .i64 r', .int .i64 s']] w fun e w' => e = .returned (.tuple #[.agg #[.int .i64 0, .int .i64 0, .int .i64 0, .int .i64 0], .int .i64 1]) ∧ Below w.heap.size w w' := by
  have H := Lib.hid h
  clear h
  go_enter Tryz.func38, Tryz.ntmps38
  go_wp2_with fail
  refine (areMatrices_2 _ p q r s p' q' r' s' _ (by go_cell) (by go_cell) (by go_cell) (by go_cell) (by go_cell) (by go_cell) (by go_cell) (by go_cell)).mono ?_
  rintro e w1 ⟨rfl, b1⟩
  have zzb1 := b1.size; (try simp at zzb1); have zb1_0 : w.heap.size < w1.heap.size := (by omega); have kcb1_0 : ∀ o, w1.cell? ⟨w.heap.size, o, none⟩ = _ := fun o => b1.cell (p := ⟨w.heap.size, o, none⟩) (by go_size); have kfb1_0 : ∀ o, w1.frozen? ⟨w.heap.size, o, none⟩ = _ := fun o => b1.frozen (p := ⟨w.heap.size, o, none⟩) (by go_size); have zb1_1 : w.heap.size + 1 < w1.heap.size := (by omega); have kcb1_1 : ∀ o, w1.cell? ⟨w.heap.size + 1, o, none⟩ = _ := fun o => b1.cell (p := ⟨w.heap.size + 1, o, none⟩) (by go_size); have kfb1_1 : ∀ o, w1.frozen? ⟨w.heap.size + 1, o, none⟩ = _ := fun o => b1.frozen (p := ⟨w.heap.size + 1, o, none⟩) (by go_size); have zb1_2 : w.heap.size + 2 < w1.heap.size := (by omega); have kcb1_2 : ∀ o, w1.cell? ⟨w.heap.size + 2, o, none⟩ = _ := fun o => b1.cell (p := ⟨w.heap.size + 2, o, none⟩) (by go_size); have kfb1_2 : ∀ o, w1.frozen? ⟨w.heap.size + 2, o, none⟩ = _ := fun o => b1.frozen (p := ⟨w.heap.size + 2, o, none⟩) (by go_size); clear zzb1
  rw [H.out]
  go_wp2
  exact bodyPost_ret (v := .tuple #[.agg #[.int .i64 0, .int .i64 0, .int .i64 0, .int .i64 0], .int .i64 1]) (by simp [results, Tryz.results38, go_sem, kcb1_2, kfb1_2, zb1_2]) rfl ⟨rfl, (by repeat' (first | (with_reducible exact Below.refl _ _) | (with_reducible assumption) | (with_reducible refine below_drewN ?_ _) | (with_reducible refine Below.drew ?_) | (with_reducible refine Below.alloc ?_ ?_ _) | (with_reducible refine Below.setCell ?_ ?_ _) | (with_reducible refine Below.trans ?_ (Below.mono (by with_reducible assumption) ?_)) | go_size | (dsimp only; omega)))⟩
set_option maxHeartbeats 4000000 in
theorem ProductOf_yes (p q r s p' q' r' s' : Int) (w : World) (h : (isM p q r s && isM p' q' r' s') = true) :
    Calls Tryz.prog 38 #[.agg #[.int .i64 p, .int .i64 q, .int .i64 r, .int .i64 s], .agg #[.int .i64 p', .int .i64 q', .int .i64 r', .int .i64 s']] w fun e w' => e = .returned (prodV (prodL M4.I [⟨p, q, r, s⟩, ⟨p', q', r', s'⟩])) ∧ Below w.heap.size w w' := by
  have h' := h
  rw [Bool.and_eq_true] at h'
  have e1 := isM_ent h'.1
  have e2 := isM_ent h'.2
  have e3 := inv_ent h'.1
  have e4 := inv_ent h'.2
  obtain ⟨⟨ap0, ap1⟩, ⟨aq0, aq1⟩, ⟨ar0, ar1⟩, ⟨as0, as1⟩, -⟩ := isM_iff.mp h'.1
  obtain ⟨⟨bp0, bp1⟩, ⟨bq0, bq1⟩, ⟨br0, br1⟩, ⟨bs0, bs1⟩, -⟩ := isM_iff.mp h'.2
  obtain ⟨x0, x1, x2, x3, x4, hv⟩ := prodV_form (prodL M4.I [⟨p, q, r, s⟩, ⟨p', q', r', s'⟩])
  rw [hv]
  have HV := Lib.hid hv
  have E1 := Lib.hid e1
  have E2 := Lib.hid e2
  have E3 := Lib.hid e3
  have E4 := Lib.hid e4
  have H := Lib.hid h
  clear h h' hv e1 e2 e3 e4
  go_enter Tryz.func38, Tryz.ntmps38
  go_wp2_with fail
  refine (areMatrices_2 _ p q r s p' q' r' s' _ (by go_cell) (by go_cell) (by go_cell) (by go_cell) (by go_cell) (by go_cell) (by go_cell) (by go_cell)).mono ?_
  rintro e w1 ⟨rfl, b1⟩
  have zzb1 := b1.size; (try simp at zzb1); have zb1_0 : w.heap.size < w1.heap.size := (by omega); have kcb1_0 : ∀ o, w1.cell? ⟨w.heap.size, o, none⟩ = _ := fun o => b1.cell (p := ⟨w.heap.size, o, none⟩) (by go_size); have kfb1_0 : ∀ o, w1.frozen? ⟨w.heap.size, o, none⟩ = _ := fun o => b1.frozen (p := ⟨w.heap.size, o, none⟩) (by go_size); have zb1_1 : w.heap.size + 1 < w1.heap.size := (by omega); have kcb1_1 : ∀ o, w1.cell? ⟨w.heap.size + 1, o, none⟩ = _ := fun o => b1.cell (p := ⟨w.heap.size + 1, o, none⟩) (by go_size); have kfb1_1 : ∀ o, w1.frozen? ⟨w.heap.size + 1, o, none⟩ = _ := fun o => b1.frozen (p := ⟨w.heap.size + 1, o, none⟩) (by go_size); have zb1_2 : w.heap.size + 2 < w1.heap.size := (by omega); have kcb1_2 : ∀ o, w1.cell? ⟨w.heap.size + 2, o, none⟩ = _ := fun o => b1.cell (p := ⟨w.heap.size + 2, o, none⟩) (by go_size); have kfb1_2 : ∀ o, w1.frozen? ⟨w.heap.size + 2, o, none⟩ = _ := fun o => b1.frozen (p := ⟨w.heap.size + 2, o, none⟩) (by go_size); clear zzb1
  rw [H.out]
  go_wp2_with fail
  refine (product_2 _ p q r s p' q' r' s' _ E1.out E2.out (by go_cell) (by go_cell) (by go_cell) (by go_cell) (by go_cell) (by go_cell) (by go_cell) (by go_cell)).mono ?_
  rintro e w2 ⟨rfl, b2⟩
  rw [HV.out]
  have zzb2 := b2.size; (try simp at zzb2); have zb2_0 : w.heap.size < w2.heap.size := (by omega); have kcb2_0 : ∀ o, w2.cell? ⟨w.heap.size, o, none⟩ = _ := fun o => b2.cell (p := ⟨w.heap.size, o, none⟩) (by go_size); have kfb2_0 : ∀ o, w2.frozen? ⟨w.heap.size, o, none⟩ = _ := fun o => b2.frozen (p := ⟨w.heap.size, o, none⟩) (by go_size); have zb2_1 : w.heap.size + 1 < w2.heap.size := (by omega); have kcb2_1 : ∀ o, w2.cell? ⟨w.heap.size + 1, o, none⟩ = _ := fun o => b2.cell (p := ⟨w.heap.size + 1, o, none⟩) (by go_size); have kfb2_1 : ∀ o, w2.frozen? ⟨w.heap.size + 1, o, none⟩ = _ := fun o => b2.frozen (p := ⟨w.heap.size + 1, o, none⟩) (by go_size); have zb2_2 : w.heap.size + 2 < w2.heap.size := (by omega); have kcb2_2 : ∀ o, w2.cell? ⟨w.heap.size + 2, o, none⟩ = _ := fun o => b2.cell (p := ⟨w.heap.size + 2, o, none⟩) (by go_size); have kfb2_2 : ∀ o, w2.frozen? ⟨w.heap.size + 2, o, none⟩ = _ := fun o => b2.frozen (p := ⟨w.heap.size + 2, o, none⟩) (by go_size); clear zzb2
  go_wp2
  exact bodyPost_ret (v := .tuple #[.agg #[.int .i64 x0, .int .i64 x1, .int .i64 x2, .int .i64 x3], .int .i64 x4]) (by simp [results, Tryz.results38, go_sem, kcb1_2, kfb1_2, zb1_2, kcb2_2, kfb2_2, zb2_2]) rfl ⟨rfl, (by repeat' (first | (with_reducible exact Below.refl _ _) | (with_reducible assumption) | (with_reducible refine below_drewN ?_ _) | (with_reducible refine Below.drew ?_) | (with_reducible refine Below.alloc ?_ ?_ _) | (with_reducible refine Below.setCell ?_ ?_ _) | (with_reducible refine Below.trans ?_ (Below.mono (by with_reducible assumption) ?_)) | go_size | (dsimp only; omega)))⟩
set_option maxHeartbeats 1000000 in
theorem sProductOf_no (p q r s p' q' r' s' : Int) (w : World) (h : (isM p q r s && isM p' q' r' s') = false) :
    Calls Tryz.prog 39 #[.agg #[.int .i64 p, .int .i64 q, .int .i64 r, .int .i64 s], .agg #[.int .i64 p', .int .i64 q', .int .i64 r', .int .i64 s']] w fun e w' => e = .returned (.tuple #[.agg #[.int .i64 0, .int .i64 0, .int .i64 0, .int .i64 0], .int .i64 1]) ∧ Below w.heap.size w w' := by
  cases m1 : isM p q r s
  · clear h
    go_enter Tryz.func39, Tryz.ntmps39
    go_wp2_with fail
    refine (l01Is_c _ _ _ _ _).mono ?_
    rintro e w1 ⟨rfl, b1⟩
    have zzb1 := b1.size; (try simp at zzb1); have zb1_0 : w.heap.size < w1.heap.size := (by omega); have kcb1_0 : ∀ o, w1.cell? ⟨w.heap.size, o, none⟩ = _ := fun o => b1.cell (p := ⟨w.heap.size, o, none⟩) (by go_size); have kfb1_0 : ∀ o, w1.frozen? ⟨w.heap.size, o, none⟩ = _ := fun o => b1.frozen (p := ⟨w.heap.size, o, none⟩) (by go_size); have zb1_1 : w.heap.size + 1 < w1.heap.size := (by omega); have kcb1_1 : ∀ o, w1.cell? ⟨w.heap.size + 1, o, none⟩ = _ := fun o => b1.cell (p := ⟨w.heap.size + 1, o, none⟩) (by go_size); have kfb1_1 : ∀ o, w1.frozen? ⟨w.heap.size + 1, o, none⟩ = _ := fun o => b1.frozen (p := ⟨w.heap.size + 1, o, none⟩) (by go_size); have zb1_2 : w.heap.size + 2 < w1.heap.size := (by omega); have kcb1_2 : ∀ o, w1.cell? ⟨w.heap.size + 2, o, none⟩ = _ := fun o => b1.cell (p := ⟨w.heap.size + 2, o, none⟩) (by go_size); have kfb1_2 : ∀ o, w1.frozen? ⟨w.heap.size + 2, o, none⟩ = _ := fun o => b1.frozen (p := ⟨w.heap.size + 2, o, none⟩) (by go_size); clear zzb1
    go_wp2
    exact bodyPost_ret (v := .tuple #[.agg #[.int .i64 0, .int .i64 0, .int .i64 0, .int .i64 0], .int .i64 1]) (by simp [results, Tryz.results39, go_sem, kcb1_2, kfb1_2, zb1_2]) rfl ⟨rfl, (by repeat' (first | (with_reducible exact Below.refl _ _) | (with_reducible assumption) | (with_reducible refine below_drewN ?_ _) | (with_reducible refine Below.drew ?_) | (with_reducible refine Below.alloc ?_ ?_ _) | (with_reducible refine Below.setCell ?_ ?_ _) | (with_reducible refine Below.trans ?_ (Below.mono (by with_reducible assumption) ?_)) | go_size | (dsimp only; omega)))⟩
  · have m2 : isM p' q' r' s' = false := by simpa [m1] using h
    clear h
    go_enter Tryz.func39, Tryz.ntmps39
    go_wp2_with fail
    refine (l01Is_c _ _ _ _ _).mono ?_
    rintro e w1 ⟨rfl, b1⟩
    have zzb1 := b1.size; (try simp at zzb1); have zb1_0 : w.heap.size < w1.heap.size := (by omega); have kcb1_0 : ∀ o, w1.cell? ⟨w.heap.size, o, none⟩ = _ := fun o => b1.cell (p := ⟨w.heap.size, o, none⟩) (by go_size); have kfb1_0 : ∀ o, w1.frozen? ⟨w.heap.size, o, none⟩ = _ := fun o => b1.frozen (p := ⟨w.heap.size, o, none⟩) (by go_size); have zb1_1 : w.heap.size + 1 < w1.heap.size := (by omega); have kcb1_1 : ∀ o, w1.cell? ⟨w.heap.size + 1, o, none⟩ = _ := fun o => b1.cell (p := ⟨w.heap.size + 1, o, none⟩) (by go_size); have kfb1_1 : ∀ o, w1.frozen? ⟨w.heap.size + 1, o, none⟩ = _ := fun o => b1.frozen (p := ⟨w.heap.size + 1, o, none⟩) (by go_size); have zb1_2 : w.heap.size + 2 < w1.heap.size := (by omega); have kcb1_2 : ∀ o, w1.cell? ⟨w.heap.size + 2, o, none⟩ = _ := fun o => b1.cell (p := ⟨w.heap.size + 2, o, none⟩) (by go_size); have kfb1_2 : ∀ o, w1.frozen? ⟨w.heap.size + 2, o, none⟩ = _ := fun o => b1.frozen (p := ⟨w.heap.size + 2, o, none⟩) (by go_size); clear zzb1
    go_wp2_with fail
    refine (l01Is_c _ _ _ _ _).mono ?_
    rintro e w2 ⟨rfl, b2⟩
    have zzb2 := b2.size; (try simp at zzb2); have zb2_0 : w.heap.size < w2.heap.size := (by omega); have kcb2_0 : ∀ o, w2.cell? ⟨w.heap.size, o, none⟩ = _ := fun o => b2.cell (p := ⟨w.heap.size, o, none⟩) (by go_size); have kfb2_0 : ∀ o, w2.frozen? ⟨w.heap.size, o, none⟩ = _ := fun o => b2.frozen (p := ⟨w.heap.size, o, none⟩) (by go_size); have zb2_1 : w.heap.size + 1 < w2.heap.size := (by omega); have kcb2_1 : ∀ o, w2.cell? ⟨w.heap.size + 1, o, none⟩ = _ := fun o => b2.cell (p := ⟨w.heap.size + 1, o, none⟩) (by go_size); have kfb2_1 : ∀ o, w2.frozen? ⟨w.heap.size + 1, o, none⟩ = _ := fun o => b2.frozen (p := ⟨w.heap.size + 1, o, none⟩) (by go_size); have zb2_2 : w.heap.size + 2 < w2.heap.size := (by omega); have kcb2_2 : ∀ o, w2.cell? ⟨w.heap.size + 2, o, none⟩ = _ := fun o => b2.cell (p := ⟨w.heap.size + 2, o, none⟩) (by go_size); have kfb2_2 : ∀ o, w2.frozen? ⟨w.heap.size + 2, o, none⟩ = _ := fun o => b2.frozen (p := ⟨w.heap.size + 2, o, none⟩) (by go_size); clear zzb2
    go_wp2
    exact bodyPost_ret (v := .tuple #[.agg #[.int .i64 0, .int .i64 0, .int .i64 0, .int .i64 0], .int .i64 1]) (by simp [results, Tryz.results39, go_sem, kcb1_2, kfb1_2, zb1_2, kcb2_2, kfb2_2, zb2_2]) rfl ⟨rfl, (by repeat' (first | (with_reducible exact Below.refl _ _) | (with_reducible assumption) | (with_reducible refine below_drewN ?_ _) | (with_reducible refine Below.drew ?_) | (with_reducible refine Below.alloc ?_ ?_ _) | (with_reducible refine Below.setCell ?_ ?_ _) | (with_reducible refine Below.trans ?_ (Below.mono (by with_reducible assumption) ?_)) | go_size | (dsimp only; omega)))⟩
set_option maxHeartbeats 8000000 in
theorem sProductOf_yes (p q r s p' q' r' s' : Int) (w : World) (h : (isM p q r s && isM p' q' r' s') = true) :
    Calls Tryz.prog 39 #[.agg #[.int .i64 p, .int .i64 q, .int .i64 r, .int .i64 s], .agg #[.int .i64 p', .int .i64 q', .int .i64 r', .int .i64 s']] w fun e w' => e = .returned (prodV (prodL M4.I [⟨p, q, r, s⟩, ⟨p', q', r', s'⟩])) ∧ Below w.heap.size w w' := by
  have h' := h
  rw [Bool.and_eq_true] at h'
  have e1 := isM_ent h'.1
  have e2 := isM_ent h'.2
  have e3 := inv_ent h'.1
  have e4 := inv_ent h'.2
  obtain ⟨⟨ap0, ap1⟩, ⟨aq0, aq1⟩, ⟨ar0, ar1⟩, ⟨as0, as1⟩, -⟩ := isM_iff.mp h'.1
  obtain ⟨⟨bp0, bp1⟩, ⟨bq0, bq1⟩, ⟨br0, br1⟩, ⟨bs0, bs1⟩, -⟩ := isM_iff.mp h'.2
  obtain ⟨m1, m2⟩ := h'
  obtain ⟨x0, x1, x2, x3, x4, hv⟩ := prodV_form (prodL M4.I [⟨p, q, r, s⟩, ⟨p', q', r', s'⟩])
  rw [hv]
  have HV := Lib.hid hv
  have E1 := Lib.hid e1
  have E2 := Lib.hid e2
  have E3 := Lib.hid e3
  have E4 := Lib.hid e4
  clear h hv e1 e2 e3 e4
  go_enter Tryz.func39, Tryz.ntmps39
  go_wp2_with fail
  refine (l01Is_c _ _ _ _ _).mono ?_
  rintro e w1 ⟨rfl, b1⟩
  have zzb1 := b1.size; (try simp at zzb1); have zb1_0 : w.heap.size < w1.heap.size := (by omega); have kcb1_0 : ∀ o, w1.cell? ⟨w.heap.size, o, none⟩ = _ := fun o => b1.cell (p := ⟨w.heap.size, o, none⟩) (by go_size); have kfb1_0 : ∀ o, w1.frozen? ⟨w.heap.size, o, none⟩ = _ := fun o => b1.frozen (p := ⟨w.heap.size, o, none⟩) (by go_size); have zb1_1 : w.heap.size + 1 < w1.heap.size := (by omega); have kcb1_1 : ∀ o, w1.cell? ⟨w.heap.size + 1, o, none⟩ = _ := fun o => b1.cell (p := ⟨w.heap.size + 1, o, none⟩) (by go_size); have kfb1_1 : ∀ o, w1.frozen? ⟨w.heap.size + 1, o, none⟩ = _ := fun o => b1.frozen (p := ⟨w.heap.size + 1, o, none⟩) (by go_size); have zb1_2 : w.heap.size + 2 < w1.heap.size := (by omega); have kcb1_2 : ∀ o, w1.cell? ⟨w.heap.size + 2, o, none⟩ = _ := fun o => b1.cell (p := ⟨w.heap.size + 2, o, none⟩) (by go_size); have kfb1_2 : ∀ o, w1.frozen? ⟨w.heap.size + 2, o, none⟩ = _ := fun o => b1.frozen (p := ⟨w.heap.size + 2, o, none⟩) (by go_size); clear zzb1
  go_wp2_with fail
  refine (l01Is_c _ _ _ _ _).mono ?_
  rintro e w2 ⟨rfl, b2⟩
  have zzb2 := b2.size; (try simp at zzb2); have zb2_0 : w.heap.size < w2.heap.size := (by omega); have kcb2_0 : ∀ o, w2.cell? ⟨w.heap.size, o, none⟩ = _ := fun o => b2.cell (p := ⟨w.heap.size, o, none⟩) (by go_size); have kfb2_0 : ∀ o, w2.frozen? ⟨w.heap.size, o, none⟩ = _ := fun o => b2.frozen (p := ⟨w.heap.size, o, none⟩) (by go_size); have zb2_1 : w.heap.size + 1 < w2.heap.size := (by omega); have kcb2_1 : ∀ o, w2.cell? ⟨w.heap.size + 1, o, none⟩ = _ := fun o => b2.cell (p := ⟨w.heap.size + 1, o, none⟩) (by go_size); have kfb2_1 : ∀ o, w2.frozen? ⟨w.heap.size + 1, o, none⟩ = _ := fun o => b2.frozen (p := ⟨w.heap.size + 1, o, none⟩) (by go_size); have zb2_2 : w.heap.size + 2 < w2.heap.size := (by omega); have kcb2_2 : ∀ o, w2.cell? ⟨w.heap.size + 2, o, none⟩ = _ := fun o => b2.cell (p := ⟨w.heap.size + 2, o, none⟩) (by go_size); have kfb2_2 : ∀ o, w2.frozen? ⟨w.heap.size + 2, o, none⟩ = _ := fun o => b2.frozen (p := ⟨w.heap.size + 2, o, none⟩) (by go_size); clear zzb2
  go_wp2_with fail
  refine (l01Product_2 _ p q r s p' q' r' s' _ E1.out E2.out (by go_cell) (by go_cell) (by go_cell) (by go_cell) (by go_cell) (by go_cell) (by go_cell) (by go_cell)).mono ?_
  rintro e w5 ⟨rfl, b5⟩
  rw [HV.out]
  have zzb5 := b5.size; (try simp at zzb5); have zb5_0 : w.heap.size < w5.heap.size := (by omega); have kcb5_0 : ∀ o, w5.cell? ⟨w.heap.size, o, none⟩ = _ := fun o => b5.cell (p := ⟨w.heap.size, o, none⟩) (by go_size); have kfb5_0 : ∀ o, w5.frozen? ⟨w.heap.size, o, none⟩ = _ := fun o => b5.frozen (p := ⟨w.heap.size, o, none⟩) (by go_size); have zb5_1 : w.heap.size + 1 < w5.heap.size := (by omega); have kcb5_1 : ∀ o, w5.cell? ⟨w.heap.size + 1, o, none⟩ = _ := fun o => b5.cell (p := ⟨w.heap.size + 1, o, none⟩) (by go_size); have kfb5_1 : ∀ o, w5.frozen? ⟨w.heap.size + 1, o, none⟩ = _ := fun o => b5.frozen (p := ⟨w.heap.size + 1, o, none⟩) (by go_size); have zb5_2 : w.heap.size + 2 < w5.heap.size := (by omega); have kcb5_2 : ∀ o, w5.cell? ⟨w.heap.size + 2, o, none⟩ = _ := fun o => b5.cell (p := ⟨w.heap.size + 2, o, none⟩) (by go_size); have kfb5_2 : ∀ o, w5.frozen? ⟨w.heap.size + 2, o, none⟩ = _ := fun o => b5.frozen (p := ⟨w.heap.size + 2, o, none⟩) (by go_size); clear zzb5
  go_wp2
  exact bodyPost_ret (v := .tuple #[.agg #[.int .i64 x0, .int .i64 x1, .int .i64 x2, .int .i64 x3], .int .i64 x4]) (by simp only [results, Tryz.results39]; go_simp) rfl ⟨rfl, (by repeat' (first | (with_reducible exact Below.refl _ _) | (with_reducible assumption) | (with_reducible refine below_drewN ?_ _) | (with_reducible refine Below.drew ?_) | (with_reducible refine Below.alloc ?_ ?_ _) | (with_reducible refine Below.setCell ?_ ?_ _) | (with_reducible refine Below.trans ?_ (Below.mono (by with_reducible assumption) ?_)) | go_size | (dsimp only; omega)))⟩
end Go.Proofs.YtlkhhpckgcdeeaaGreatDoor
