/- The way down the tree of fractions: the reference's walk. -/
import Derived.Test.YtgchbjlkbfdbdaaQA
namespace Go.Proofs.Ytgchbjlkbfdbdaa
open Go.RowKit
open Plain (On)
set_option linter.unusedVariables false
set_option linter.unusedSimpArgs false
attribute [local go_sem] run_min_int4 run_max_int4
attribute [local go_sem] run_equalIn_Q
theorem red_one {x y : Int} (hg : Int.gcd x y = 1) (hy : 1 ≤ y) : redP x y = x ∧ redQ x y = y := by
  unfold redP redQ
  rw [if_neg (by omega), if_neg (by omega), hg]
  simp
theorem l03Mediant_c (a b c d : Int) (w : World) (ha0 : 0 ≤ a) (ha1 : a ≤ 10000000000) (hb0 : 0 ≤ b) (hb1 : b ≤ 10000000000) (hc0 : 0 ≤ c) (hc1 : c ≤ 10000000000) (hd0 : 0 ≤ d) (hd1 : d ≤ 10000000000) (hg : Int.gcd (a + c) (b + d) = 1) (hp : 1 ≤ b + d) :
    Calls Try.prog 67 #[.agg #[.int .i64 a, .int .i64 b], .agg #[.int .i64 c, .int .i64 d]] w fun e w' => e = .returned (.agg #[.int .i64 (a + c), .int .i64 (b + d)]) ∧ Below w.heap.size w w' := by
  obtain ⟨e1, e2⟩ := red_one hg hp
  have E1 := Lib.hid e1
  have E2 := Lib.hid e2
  clear e1 e2 hg
  go_enter Try.func67, Try.ntmps67
  go_wp2_with fail
  refine (l01Reduced_c (a + c) (b + d) _ (by omega) (by omega) (by omega) (by omega) (by omega)).mono ?_
  rintro e w2 ⟨rfl, b2⟩
  rw [E1.out, E2.out]
  have zzb2 := b2.size; (try simp at zzb2); have zb2_0 : w.heap.size < w2.heap.size := (by omega); have kcb2_0 : ∀ o, w2.cell? ⟨w.heap.size, o, none⟩ = _ := fun o => b2.cell (p := ⟨w.heap.size, o, none⟩) (by go_size); have kfb2_0 : ∀ o, w2.frozen? ⟨w.heap.size, o, none⟩ = _ := fun o => b2.frozen (p := ⟨w.heap.size, o, none⟩) (by go_size); have zb2_1 : w.heap.size + 1 < w2.heap.size := (by omega); have kcb2_1 : ∀ o, w2.cell? ⟨w.heap.size + 1, o, none⟩ = _ := fun o => b2.cell (p := ⟨w.heap.size + 1, o, none⟩) (by go_size); have kfb2_1 : ∀ o, w2.frozen? ⟨w.heap.size + 1, o, none⟩ = _ := fun o => b2.frozen (p := ⟨w.heap.size + 1, o, none⟩) (by go_size); have zb2_2 : w.heap.size + 2 < w2.heap.size := (by omega); have kcb2_2 : ∀ o, w2.cell? ⟨w.heap.size + 2, o, none⟩ = _ := fun o => b2.cell (p := ⟨w.heap.size + 2, o, none⟩) (by go_size); have kfb2_2 : ∀ o, w2.frozen? ⟨w.heap.size + 2, o, none⟩ = _ := fun o => b2.frozen (p := ⟨w.heap.size + 2, o, none⟩) (by go_size); clear zzb2
  go_wp2
  exact bodyPost_ret (v := .agg #[.int .i64 (a + c), .int .i64 (b + d)]) (by simp only [results, Try.results67]; go_simp) rfl ⟨rfl, (by repeat' (first | (with_reducible exact Below.refl _ _) | (with_reducible assumption) | (with_reducible refine below_drewN ?_ _) | (with_reducible refine Below.drew ?_) | (with_reducible refine Below.alloc ?_ ?_ _) | (with_reducible refine Below.setCell ?_ ?_ _) | (with_reducible refine Below.trans ?_ (Below.mono (by with_reducible assumption) ?_)) | go_size | (dsimp only; omega)))⟩
theorem less_on {p q a b c d u v : Int} (h : On p q a b c d u v) (hq : 1 ≤ q) : lessF p q (a + c) (b + d) = decide (v < u) := by
  have hb := h.pos
  have hc := h.cmp
  unfold lessF
  rw [if_neg (by omega)]
  by_cases h1 : v < u
  · rw [decide_eq_true h1, decide_eq_true (by omega)]
  · rw [decide_eq_false h1, decide_eq_false (by omega)]
theorem mid_ne {p q a b c d u v : Int} (h : On p q a b c d u v) (hne : u ≠ v) : (a + c == p && b + d == q) = false := by
  have hc := h.cmp
  cases h1 : (a + c == p) <;> cases h2 : (b + d == q) <;> try rfl
  exfalso
  rw [beq_iff_eq] at h1 h2
  rw [h1, h2] at hc
  have : p * q - p * q = 0 := by omega
  omega
theorem grown_far' {w2 w3 : World} {o : Obj} {g n cap : Nat} (hg : (w2.alloc o).grownBy w3 (Value.slice (some ⟨g, 0, none⟩) n cap).ownBlock) (bb : Nat) (h1 : bb < w2.heap.size) (h2 : bb ≠ g) :
    (∀ i, w3.cell? ⟨bb, i, none⟩ = w2.cell? ⟨bb, i, none⟩) ∧ (∀ i, w3.frozen? ⟨bb, i, none⟩ = w2.frozen? ⟨bb, i, none⟩) := by
  have hne : some bb ≠ (Value.slice (some ⟨g, 0, none⟩) n cap).ownBlock := by simpa [Value.ownBlock] using h2
  constructor
  · intro i
    rw [hg.cell_far ⟨bb, i, none⟩ (by simp; omega) hne]
    exact World.cell?_alloc_lt _ _ _ h1
  · intro i
    rw [hg.frozen_far ⟨bb, i, none⟩ (by simp; omega) hne]
    exact World.frozen?_alloc_old _ _ _ (by dsimp only; omega)
theorem own_drew0 {w : World} {base n size : Nat} {e : TypeId} {v : Value} {xs : List Value} (h : w.ownsRow base e size v n xs) : w.drew.ownsRow base e size v n xs := by
  obtain ⟨h1, h2⟩ := h
  exact ⟨h1, h2.imp id (fun ⟨g, cap, cur, h1, h2, h3, h4⟩ => ⟨g, cap, cur, h1, h2, h3, h4⟩)⟩
theorem own_base {w : World} {base base' n size : Nat} {e : TypeId} {v : Value} {xs : List Value} (h : w.ownsRow base e size v n xs) (hb : base' ≤ base) : w.ownsRow base' e size v n xs := by
  obtain ⟨h1, h2⟩ := h
  exact ⟨h1, h2.imp id (fun ⟨g, cap, cur, h1, h2, h3, h4⟩ => ⟨g, cap, cur, h1, by omega, h3, h4⟩)⟩
theorem own_take {w : World} {base g cap : Nat} {e : TypeId} {L : List UInt8} (h : w.ownsRow base e 1 (.slice (some ⟨g, 0, none⟩) L.length cap) L.length (u8s (L.take L.length))) : w.ownsRow base e 1 (.slice (some ⟨g, 0, none⟩) L.length cap) L.length (u8s L) := by
  rw [List.take_length] at h; exact h
set_option maxRecDepth 100000 in
set_option maxHeartbeats 8000000 in
theorem l03Walk_c (p q A B C D : Int) (L : List UInt8) (w : World) (hp0 : 1 ≤ p) (hp1 : p ≤ 10000) (hq0 : 1 ≤ q) (hq1 : q ≤ 10000) (hW : Plain.Walk 0 1 1 0 q p L A B C D) (hL : L.length ≤ 1000000) :
    Calls Try.prog 40 #[.agg #[.int .i64 p, .int .i64 q]] w fun e w' => ∃ g cap, e = .returned (.tuple #[.agg #[.int .i64 A, .int .i64 B], .agg #[.int .i64 C, .int .i64 D], .slice (some ⟨g, 0, none⟩) L.length cap]) ∧ w'.ownsRow w.heap.size 5 1 (.slice (some ⟨g, 0, none⟩) L.length cap) L.length (u8s L) ∧ Below w.heap.size w w' := by
  obtain ⟨i0, hi, hz0, hz1, hz2⟩ := info_parts info_u8
  have HW := Lib.hid hW
  have HO := Lib.hid (On.start hp0 hq0)
  clear hW
  go_enter Try.func40, Try.ntmps40
  go_wp2
  generalize hw0 : World.alloc _ _ = w0
  have f0 : w0.cell? ⟨w.heap.size, 0, none⟩ = some (.int .i64 p) := by subst hw0; go_simp
  have f1 : w0.cell? ⟨w.heap.size, 1, none⟩ = some (.int .i64 q) := by subst hw0; go_simp
  have x0 : w0.cell? ⟨w.heap.size + 1, 0, none⟩ = some (.int .i64 0) := by subst hw0; go_simp
  have x1 : w0.cell? ⟨w.heap.size + 1, 1, none⟩ = some (.int .i64 0) := by subst hw0; go_simp
  have y0 : w0.cell? ⟨w.heap.size + 2, 0, none⟩ = some (.int .i64 0) := by subst hw0; go_simp
  have y1 : w0.cell? ⟨w.heap.size + 2, 1, none⟩ = some (.int .i64 0) := by subst hw0; go_simp
  have l0 : w0.cell? ⟨w.heap.size + 4, 0, none⟩ = some (.int .i64 0) := by subst hw0; go_simp
  have l1 : w0.cell? ⟨w.heap.size + 4, 1, none⟩ = some (.int .i64 1) := by subst hw0; go_simp
  have r0 : w0.cell? ⟨w.heap.size + 5, 0, none⟩ = some (.int .i64 1) := by subst hw0; go_simp
  have r1 : w0.cell? ⟨w.heap.size + 5, 1, none⟩ = some (.int .i64 0) := by subst hw0; go_simp
  have xf : ∀ i, w0.frozen? ⟨w.heap.size + 1, i, none⟩ = false := by subst hw0; intro i; go_simp
  have yf : ∀ i, w0.frozen? ⟨w.heap.size + 2, i, none⟩ = false := by subst hw0; intro i; go_simp
  have lf : ∀ i, w0.frozen? ⟨w.heap.size + 4, i, none⟩ = false := by subst hw0; intro i; go_simp
  have rf : ∀ i, w0.frozen? ⟨w.heap.size + 5, i, none⟩ = false := by subst hw0; intro i; go_simp
  have hB0 : Below w.heap.size w w0 := by subst hw0; exact (by repeat' (first | (with_reducible exact Below.refl _ _) | (with_reducible assumption) | (with_reducible refine below_drewN ?_ _) | (with_reducible refine Below.drew ?_) | (with_reducible refine Below.alloc ?_ ?_ _) | (with_reducible refine Below.setCell ?_ ?_ _) | (with_reducible refine Below.trans ?_ (Below.mono (by with_reducible assumption) ?_)) | go_size | (dsimp only; omega)))
  have hs0 : w.heap.size + 5 < w0.heap.size := by subst hw0; go_size
  have hown0 : w0.ownsRow (w.heap.size + 3) 5 1 (.slice (some ⟨w.heap.size + 3, 0, none⟩) 0 0) 0 (u8s []) := by
    subst hw0
    have h := ((own_new (((w.alloc (Obj.cells #[.int .i64 p, .int .i64 q] 34)).alloc (Obj.cells #[.int .i64 0, .int .i64 0] 34)).alloc (Obj.cells #[.int .i64 0, .int .i64 0] 34)) (w.heap.size + 3) 5 1 (by simp)).alloc (Obj.cells #[.int .i64 0, .int .i64 1] 34)).alloc (Obj.cells #[.int .i64 1, .int .i64 0] 34)
    simpa [u8s] using h
  clear hw0
  go_loopw [7] (fun pv wr => ∃ (a b c d u v : Int) (n g cap : Nat) (rest : List UInt8), pv = .slice (some ⟨g, 0, none⟩) n cap ∧ w.heap.size + 3 ≤ g ∧ g < wr.heap.size ∧ g ≠ w.heap.size + 4 ∧ g ≠ w.heap.size + 5 ∧ Hid (On p q a b c d u v) ∧ Hid (Plain.Walk a b c d u v rest A B C D) ∧ n + rest.length = L.length ∧ Hid (L.take n ++ rest = L) ∧
    wr.ownsRow (w.heap.size + 3) 5 1 (.slice (some ⟨g, 0, none⟩) n cap) n (u8s (L.take n)) ∧
    wr.cell? ⟨w.heap.size, 0, none⟩ = some (.int .i64 p) ∧ wr.cell? ⟨w.heap.size, 1, none⟩ = some (.int .i64 q) ∧ wr.cell? ⟨w.heap.size + 1, 0, none⟩ = some (.int .i64 0) ∧ wr.cell? ⟨w.heap.size + 1, 1, none⟩ = some (.int .i64 0) ∧ wr.cell? ⟨w.heap.size + 2, 0, none⟩ = some (.int .i64 0) ∧ wr.cell? ⟨w.heap.size + 2, 1, none⟩ = some (.int .i64 0) ∧ wr.cell? ⟨w.heap.size + 4, 0, none⟩ = some (.int .i64 a) ∧ wr.cell? ⟨w.heap.size + 4, 1, none⟩ = some (.int .i64 b) ∧ wr.cell? ⟨w.heap.size + 5, 0, none⟩ = some (.int .i64 c) ∧ wr.cell? ⟨w.heap.size + 5, 1, none⟩ = some (.int .i64 d) ∧
    (∀ i, wr.frozen? ⟨w.heap.size + 1, i, none⟩ = false) ∧ (∀ i, wr.frozen? ⟨w.heap.size + 2, i, none⟩ = false) ∧ (∀ i, wr.frozen? ⟨w.heap.size + 4, i, none⟩ = false) ∧ (∀ i, wr.frozen? ⟨w.heap.size + 5, i, none⟩ = false) ∧ Below w.heap.size w wr ∧ w.heap.size + 5 < wr.heap.size) (fun pv wr => L.length - lenOf pv)
  case atStart => exact ⟨0, 1, 1, 0, q, p, 0, _, 0, L, rfl, by omega, by omega, by omega, by omega, HO.out, HW.out, by omega, Lib.hid (by simp), hown0, f0, f1, x0, x1, y0, y1, l0, l1, r0, r1, xf, yf, lf, rf, hB0, hs0⟩
  case round =>
    clear f0 f1 x0 x1 y0 y1 l0 l1 r0 r1 xf yf lf rf hB0 hs0 hown0
    obtain ⟨a, b, c, d, u, v, n, g, cap, rest, rfl, hg0, hg1, hg4, hg5, HON, HWK, hn, HT, hown, f0, f1, x0, x1, y0, y1, l0, l1, r0, r1, xf, yf, lf, rf, hB, hs⟩ := hrel
    have hbd := HON.out.bd
    have ha0 := HON.out.a0
    have hb0 := HON.out.b0
    have hc0 := HON.out.c0
    have hd0 := HON.out.d0
    have hu1 := HON.out.u1
    have hv1 := HON.out.v1
    have HLESS := Lib.hid (less_on HON.out hq0)
    have HG := Lib.hid HON.out.gcd
    have hpos := HON.out.pos
    have M1 := mul_bd (x := p) (y := b + d) (A := 10000) (B := 10000) (by omega) (by omega) (by omega) (by omega)
    have M2 := mul_bd (x := a + c) (y := q) (A := 10000) (B := 10000) (by omega) (by omega) (by omega) (by omega)
    have hsL : w.heap.size < wr.heap.size := by omega
    have hs1 : w.heap.size + 1 < wr.heap.size := by omega
    have hs2 : w.heap.size + 2 < wr.heap.size := by omega
    have hs4 : w.heap.size + 4 < wr.heap.size := by omega
    go_wp2_with fail
    refine (l03Mediant_c a b c d _ ha0 (by omega) hb0 (by omega) hc0 (by omega) hd0 (by omega) HG.out hpos).mono ?_
    rintro e w1 ⟨rfl, b1⟩
    have zzb1 := b1.size; (try simp at zzb1); have zb1_0 : w.heap.size < w1.heap.size := (by omega); have kcb1_0 : ∀ o, w1.cell? ⟨w.heap.size, o, none⟩ = _ := fun o => b1.cell (p := ⟨w.heap.size, o, none⟩) (by go_size); have kfb1_0 : ∀ o, w1.frozen? ⟨w.heap.size, o, none⟩ = _ := fun o => b1.frozen (p := ⟨w.heap.size, o, none⟩) (by go_size); have zb1_1 : w.heap.size + 1 < w1.heap.size := (by omega); have kcb1_1 : ∀ o, w1.cell? ⟨w.heap.size + 1, o, none⟩ = _ := fun o => b1.cell (p := ⟨w.heap.size + 1, o, none⟩) (by go_size); have kfb1_1 : ∀ o, w1.frozen? ⟨w.heap.size + 1, o, none⟩ = _ := fun o => b1.frozen (p := ⟨w.heap.size + 1, o, none⟩) (by go_size); have zb1_2 : w.heap.size + 2 < w1.heap.size := (by omega); have kcb1_2 : ∀ o, w1.cell? ⟨w.heap.size + 2, o, none⟩ = _ := fun o => b1.cell (p := ⟨w.heap.size + 2, o, none⟩) (by go_size); have kfb1_2 : ∀ o, w1.frozen? ⟨w.heap.size + 2, o, none⟩ = _ := fun o => b1.frozen (p := ⟨w.heap.size + 2, o, none⟩) (by go_size); have zb1_3 : w.heap.size + 3 < w1.heap.size := (by omega); have kcb1_3 : ∀ o, w1.cell? ⟨w.heap.size + 3, o, none⟩ = _ := fun o => b1.cell (p := ⟨w.heap.size + 3, o, none⟩) (by go_size); have kfb1_3 : ∀ o, w1.frozen? ⟨w.heap.size + 3, o, none⟩ = _ := fun o => b1.frozen (p := ⟨w.heap.size + 3, o, none⟩) (by go_size); have zb1_4 : w.heap.size + 4 < w1.heap.size := (by omega); have kcb1_4 : ∀ o, w1.cell? ⟨w.heap.size + 4, o, none⟩ = _ := fun o => b1.cell (p := ⟨w.heap.size + 4, o, none⟩) (by go_size); have kfb1_4 : ∀ o, w1.frozen? ⟨w.heap.size + 4, o, none⟩ = _ := fun o => b1.frozen (p := ⟨w.heap.size + 4, o, none⟩) (by go_size); have zb1_5 : w.heap.size + 5 < w1.heap.size := (by omega); have kcb1_5 : ∀ o, w1.cell? ⟨w.heap.size + 5, o, none⟩ = _ := fun o => b1.cell (p := ⟨w.heap.size + 5, o, none⟩) (by go_size); have kfb1_5 : ∀ o, w1.frozen? ⟨w.heap.size + 5, o, none⟩ = _ := fun o => b1.frozen (p := ⟨w.heap.size + 5, o, none⟩) (by go_size); clear zzb1
    have hown1 := own_bl hown b1
    have hB1 : Below w.heap.size w w1 := (by repeat' (first | (with_reducible exact Below.refl _ _) | (with_reducible assumption) | (with_reducible refine below_drewN ?_ _) | (with_reducible refine Below.drew ?_) | (with_reducible refine Below.alloc ?_ ?_ _) | (with_reducible refine Below.setCell ?_ ?_ _) | (with_reducible refine Below.trans ?_ (Below.mono (by with_reducible assumption) ?_)) | go_size | (dsimp only; omega)))
    by_cases huv : u = v
    · obtain ⟨rfl, rfl, rfl, rfl, rfl, rfl, rfl⟩ : u = 1 ∧ v = 1 ∧ rest = [] ∧ a = A ∧ b = B ∧ c = C ∧ d = D := by
        cases HWK.out
        · exact ⟨rfl, rfl, rfl, rfl, rfl, rfl, rfl⟩
        · omega
        · omega
      obtain rfl : n = L.length := by simpa using hn
      have heq := HON.out.eq rfl rfl
      obtain ⟨e1, e2⟩ := heq
      have t0 : (a + c == p && b + d == q) = true := by rw [e1, e2]; simp
      have hown1' := own_take hown1
      go_wp2
      go_region
      go_wp2
      exact bodyPost_ret (v := .tuple #[.agg #[.int .i64 a, .int .i64 b], .agg #[.int .i64 c, .int .i64 d], .slice (some ⟨g, 0, none⟩) L.length cap]) (by simp only [results, Try.results40]; go_simp) rfl ⟨_, _, rfl, own_base (base := w.heap.size + 3) (by (repeat (first | (with_reducible exact hown1') | (with_reducible refine own_drew0 ?_) | (with_reducible refine World.ownsRow.alloc ?_ _) | (with_reducible refine own_setg ?_ (by dsimp only; omega))))) (by omega), (by repeat' (first | (with_reducible exact Below.refl _ _) | (with_reducible assumption) | (with_reducible refine below_drewN ?_ _) | (with_reducible refine Below.drew ?_) | (with_reducible refine Below.alloc ?_ ?_ _) | (with_reducible refine Below.setCell ?_ ?_ _) | (with_reducible refine Below.trans ?_ (Below.mono (by with_reducible assumption) ?_)) | go_size | (dsimp only; omega)))⟩
    · have hne := mid_ne HON.out huv
      by_cases h1 : v < u
      · obtain ⟨l, rfl, hw3⟩ : ∃ l, rest = 76 :: l ∧ Plain.Walk a b (a + c) (b + d) (u - v) v l A B C D := by
          cases HWK.out
          · omega
          · first | exact ⟨_, rfl, ‹_›⟩ | omega
          · first | exact ⟨_, rfl, ‹_›⟩ | omega
        have HON2 := Lib.hid (HON.out.left h1)
        have HWK2 := Lib.hid hw3
        clear hw3
        obtain ⟨t1, t2⟩ := take_snoc8 HT.out
        have HT1 := Lib.hid t1
        have HT2 := Lib.hid t2
        clear t1 t2
        have hdec : decide (v < u) = true := decide_eq_true h1
        go_wp2_with fail
        refine (l01Less_c p q (a + c) (b + d) _ (by omega) (by omega)).mono ?_
        rintro e w2 ⟨rfl, b2⟩
        rw [HLESS.out, hdec]
        have zzb2 := b2.size; (try simp at zzb2); have zb2_w0 : w.heap.size < w2.heap.size := (by omega); have kcb2_w0 : ∀ o, w2.cell? ⟨w.heap.size, o, none⟩ = _ := fun o => b2.cell (p := ⟨w.heap.size, o, none⟩) (by go_size); have kfb2_w0 : ∀ o, w2.frozen? ⟨w.heap.size, o, none⟩ = _ := fun o => b2.frozen (p := ⟨w.heap.size, o, none⟩) (by go_size); have zb2_w1 : w.heap.size + 1 < w2.heap.size := (by omega); have kcb2_w1 : ∀ o, w2.cell? ⟨w.heap.size + 1, o, none⟩ = _ := fun o => b2.cell (p := ⟨w.heap.size + 1, o, none⟩) (by go_size); have kfb2_w1 : ∀ o, w2.frozen? ⟨w.heap.size + 1, o, none⟩ = _ := fun o => b2.frozen (p := ⟨w.heap.size + 1, o, none⟩) (by go_size); have zb2_w2 : w.heap.size + 2 < w2.heap.size := (by omega); have kcb2_w2 : ∀ o, w2.cell? ⟨w.heap.size + 2, o, none⟩ = _ := fun o => b2.cell (p := ⟨w.heap.size + 2, o, none⟩) (by go_size); have kfb2_w2 : ∀ o, w2.frozen? ⟨w.heap.size + 2, o, none⟩ = _ := fun o => b2.frozen (p := ⟨w.heap.size + 2, o, none⟩) (by go_size); have zb2_w3 : w.heap.size + 3 < w2.heap.size := (by omega); have kcb2_w3 : ∀ o, w2.cell? ⟨w.heap.size + 3, o, none⟩ = _ := fun o => b2.cell (p := ⟨w.heap.size + 3, o, none⟩) (by go_size); have kfb2_w3 : ∀ o, w2.frozen? ⟨w.heap.size + 3, o, none⟩ = _ := fun o => b2.frozen (p := ⟨w.heap.size + 3, o, none⟩) (by go_size); have zb2_w4 : w.heap.size + 4 < w2.heap.size := (by omega); have kcb2_w4 : ∀ o, w2.cell? ⟨w.heap.size + 4, o, none⟩ = _ := fun o => b2.cell (p := ⟨w.heap.size + 4, o, none⟩) (by go_size); have kfb2_w4 : ∀ o, w2.frozen? ⟨w.heap.size + 4, o, none⟩ = _ := fun o => b2.frozen (p := ⟨w.heap.size + 4, o, none⟩) (by go_size); have zb2_w5 : w.heap.size + 5 < w2.heap.size := (by omega); have kcb2_w5 : ∀ o, w2.cell? ⟨w.heap.size + 5, o, none⟩ = _ := fun o => b2.cell (p := ⟨w.heap.size + 5, o, none⟩) (by go_size); have kfb2_w5 : ∀ o, w2.frozen? ⟨w.heap.size + 5, o, none⟩ = _ := fun o => b2.frozen (p := ⟨w.heap.size + 5, o, none⟩) (by go_size); have zb2_w10 : w1.heap.size < w2.heap.size := (by omega); have kcb2_w10 : ∀ o, w2.cell? ⟨w1.heap.size, o, none⟩ = _ := fun o => b2.cell (p := ⟨w1.heap.size, o, none⟩) (by go_size); have kfb2_w10 : ∀ o, w2.frozen? ⟨w1.heap.size, o, none⟩ = _ := fun o => b2.frozen (p := ⟨w1.heap.size, o, none⟩) (by go_size); clear zzb2
        have hown2 := own_bl (hown1.alloc (Obj.cells #[.int .i64 (a + c), .int .i64 (b + d)] 34)) b2
        have hB2 : Below w.heap.size w w2 := (by repeat' (first | (with_reducible exact Below.refl _ _) | (with_reducible assumption) | (with_reducible refine below_drewN ?_ _) | (with_reducible refine Below.drew ?_) | (with_reducible refine Below.alloc ?_ ?_ _) | (with_reducible refine Below.setCell ?_ ?_ _) | (with_reducible refine Below.trans ?_ (Below.mono (by with_reducible assumption) ?_)) | go_size | (dsimp only; omega)))
        go_upto_region 7 with fail
        generalize hw5 : World.setCell _ _ _ = w5
        have hown5 : w5.ownsRow (w.heap.size + 3) 5 1 (.slice (some ⟨g, 0, none⟩) n cap) n (u8s (L.take n)) := by subst hw5; (repeat (with_reducible refine own_setg ?_ (by dsimp only; omega))); exact hown2
        have hB5 : Below w.heap.size w w5 := by subst hw5; exact (by repeat' (first | (with_reducible exact Below.refl _ _) | (with_reducible assumption) | (with_reducible refine below_drewN ?_ _) | (with_reducible refine Below.drew ?_) | (with_reducible refine Below.alloc ?_ ?_ _) | (with_reducible refine Below.setCell ?_ ?_ _) | (with_reducible refine Below.trans ?_ (Below.mono (by with_reducible assumption) ?_)) | go_size | (dsimp only; omega)))
        have hs5 : w.heap.size + 5 < w5.heap.size := by subst hw5; go_size
        have hg5' : g < w5.heap.size := (hown5.lt g rfl).2
        have f5_0 : w5.cell? ⟨w.heap.size, 0, none⟩ = some (.int .i64 (p)) := by subst hw5; go_simp
        have f5_1 : w5.cell? ⟨w.heap.size, 1, none⟩ = some (.int .i64 (q)) := by subst hw5; go_simp
        have x5_0 : w5.cell? ⟨w.heap.size + 1, 0, none⟩ = some (.int .i64 (0)) := by subst hw5; go_simp
        have x5_1 : w5.cell? ⟨w.heap.size + 1, 1, none⟩ = some (.int .i64 (0)) := by subst hw5; go_simp
        have y5_0 : w5.cell? ⟨w.heap.size + 2, 0, none⟩ = some (.int .i64 (0)) := by subst hw5; go_simp
        have y5_1 : w5.cell? ⟨w.heap.size + 2, 1, none⟩ = some (.int .i64 (0)) := by subst hw5; go_simp
        have l5_0 : w5.cell? ⟨w.heap.size + 4, 0, none⟩ = some (.int .i64 (a)) := by subst hw5; go_simp
        have l5_1 : w5.cell? ⟨w.heap.size + 4, 1, none⟩ = some (.int .i64 (b)) := by subst hw5; go_simp
        have r5_0 : w5.cell? ⟨w.heap.size + 5, 0, none⟩ = some (.int .i64 (a + c)) := by subst hw5; go_simp
        have r5_1 : w5.cell? ⟨w.heap.size + 5, 1, none⟩ = some (.int .i64 (b + d)) := by subst hw5; go_simp
        have xf5 : ∀ i, w5.frozen? ⟨w.heap.size + 1, i, none⟩ = false := by subst hw5; intro i; go_simp
        have yf5 : ∀ i, w5.frozen? ⟨w.heap.size + 2, i, none⟩ = false := by subst hw5; intro i; go_simp
        have lf5 : ∀ i, w5.frozen? ⟨w.heap.size + 4, i, none⟩ = false := by subst hw5; intro i; go_simp
        have rf5 : ∀ i, w5.frozen? ⟨w.heap.size + 5, i, none⟩ = false := by subst hw5; intro i; go_simp
        clear hw5 b1 b2 hown2 hown1 hB2 hB1 hown hB f0 f1 x0 x1 y0 y1 l0 l1 r0 r1 xf yf lf rf kcb2_w0 kfb2_w0 kcb2_w1 kfb2_w1 kcb2_w2 kfb2_w2 kcb2_w3 kfb2_w3 kcb2_w4 kfb2_w4 kcb2_w5 kfb2_w5 kcb1_0 kfb1_0 kcb1_1 kfb1_1 kcb1_2 kfb1_2 kcb1_3 kfb1_3 kcb1_4 kfb1_4 kcb1_5 kfb1_5 kcb2_w10 kfb2_w10
        go_wp2_with (at_builtin; refine wpList_append_lies _ rfl _ _ _ rfl (w.heap.size + 3) 5 i0 _ 1 1 under_u8s hi hz0 hz1 hz2 rfl (by omega) _ n (u8s (L.take n)) rfl (hown5.alloc _) ⟨w5.heap.size, 0, none⟩ 1 1 [.int .u8 76] rfl rfl (World.news_of_block (cs := #[.int .u8 76]) (t := 5) (fr := (0, 0)) (heap_alloc_new w5 _)) (by simp [Value.oneCell']) (by omega) (by unfold maxLen; omega) (by omega) (by simp; omega) (w5.heap.size + 1) (by simp) ?_; intro gg cap3 w3 hown3 hgrow hat hlt; obtain ⟨c0, ff0⟩ := grown_far' hgrow (w.heap.size) (by omega) (by omega); obtain ⟨c1, ff1⟩ := grown_far' hgrow (w.heap.size + 1) (by omega) (by omega); obtain ⟨c2, ff2⟩ := grown_far' hgrow (w.heap.size + 2) (by omega) (by omega); obtain ⟨c4, ff4⟩ := grown_far' hgrow (w.heap.size + 4) (by omega) (by omega); obtain ⟨c5, ff5⟩ := grown_far' hgrow (w.heap.size + 5) (by omega) (by omega))
        have hs3 : w.heap.size + 5 < w3.heap.size := by have h := hgrow.size; simp at h; omega
        have hgg : gg = g ∨ gg = w5.heap.size + 1 := by
          rcases (show some g = some gg ∨ gg = w5.heap.size + 1 from hat) with h | h
          · injection h with h; exact .inl h.symm
          · exact .inr h
        have ho3 : w3.ownsRow (w.heap.size + 3) 5 1 (.slice (some ⟨gg, 0, none⟩) (n + 1) cap3) (n + 1) (u8s (L.take (n + 1))) := by
          rw [HT1.out, u8s_snoc]; exact hown3
        have hB3 : Below w.heap.size w w3 := Below.grown (Below.alloc hB5 (by omega) _) hgrow (by simp; omega) (fun k hk => by have := (hown5.lt k hk).1; omega)
        go_roundw
        case rel => exact ⟨a, b, a + c, b + d, u - v, v, n + 1, gg, cap3, l, rfl, by omega, by omega, by omega, by omega, HON2.out, HWK2.out, by simp at hn; omega, Lib.hid HT2.out, ho3, by rw [c0]; exact f5_0, by rw [c0]; exact f5_1, by rw [c1]; exact x5_0, by rw [c1]; exact x5_1, by rw [c2]; exact y5_0, by rw [c2]; exact y5_1, by rw [c4]; exact l5_0, by rw [c4]; exact l5_1, by rw [c5]; exact r5_0, by rw [c5]; exact r5_1, (by intro i; rw [ff1]; exact xf5 i), (by intro i; rw [ff2]; exact yf5 i), (by intro i; rw [ff4]; exact lf5 i), (by intro i; rw [ff5]; exact rf5 i), hB3, hs3⟩
        case measure => (simp [lenOf]; simp at hn; omega)
      · have h2 : u < v := by omega
        obtain ⟨l, rfl, hw3⟩ : ∃ l, rest = 82 :: l ∧ Plain.Walk (a + c) (b + d) c d u (v - u) l A B C D := by
          cases HWK.out
          · omega
          · first | exact ⟨_, rfl, ‹_›⟩ | omega
          · first | exact ⟨_, rfl, ‹_›⟩ | omega
        have HON2 := Lib.hid (HON.out.right h2)
        have HWK2 := Lib.hid hw3
        clear hw3
        obtain ⟨t1, t2⟩ := take_snoc8 HT.out
        have HT1 := Lib.hid t1
        have HT2 := Lib.hid t2
        clear t1 t2
        have hdec : decide (v < u) = false := decide_eq_false h1
        go_wp2_with fail
        refine (l01Less_c p q (a + c) (b + d) _ (by omega) (by omega)).mono ?_
        rintro e w2 ⟨rfl, b2⟩
        rw [HLESS.out, hdec]
        have zzb2 := b2.size; (try simp at zzb2); have zb2_w0 : w.heap.size < w2.heap.size := (by omega); have kcb2_w0 : ∀ o, w2.cell? ⟨w.heap.size, o, none⟩ = _ := fun o => b2.cell (p := ⟨w.heap.size, o, none⟩) (by go_size); have kfb2_w0 : ∀ o, w2.frozen? ⟨w.heap.size, o, none⟩ = _ := fun o => b2.frozen (p := ⟨w.heap.size, o, none⟩) (by go_size); have zb2_w1 : w.heap.size + 1 < w2.heap.size := (by omega); have kcb2_w1 : ∀ o, w2.cell? ⟨w.heap.size + 1, o, none⟩ = _ := fun o => b2.cell (p := ⟨w.heap.size + 1, o, none⟩) (by go_size); have kfb2_w1 : ∀ o, w2.frozen? ⟨w.heap.size + 1, o, none⟩ = _ := fun o => b2.frozen (p := ⟨w.heap.size + 1, o, none⟩) (by go_size); have zb2_w2 : w.heap.size + 2 < w2.heap.size := (by omega); have kcb2_w2 : ∀ o, w2.cell? ⟨w.heap.size + 2, o, none⟩ = _ := fun o => b2.cell (p := ⟨w.heap.size + 2, o, none⟩) (by go_size); have kfb2_w2 : ∀ o, w2.frozen? ⟨w.heap.size + 2, o, none⟩ = _ := fun o => b2.frozen (p := ⟨w.heap.size + 2, o, none⟩) (by go_size); have zb2_w3 : w.heap.size + 3 < w2.heap.size := (by omega); have kcb2_w3 : ∀ o, w2.cell? ⟨w.heap.size + 3, o, none⟩ = _ := fun o => b2.cell (p := ⟨w.heap.size + 3, o, none⟩) (by go_size); have kfb2_w3 : ∀ o, w2.frozen? ⟨w.heap.size + 3, o, none⟩ = _ := fun o => b2.frozen (p := ⟨w.heap.size + 3, o, none⟩) (by go_size); have zb2_w4 : w.heap.size + 4 < w2.heap.size := (by omega); have kcb2_w4 : ∀ o, w2.cell? ⟨w.heap.size + 4, o, none⟩ = _ := fun o => b2.cell (p := ⟨w.heap.size + 4, o, none⟩) (by go_size); have kfb2_w4 : ∀ o, w2.frozen? ⟨w.heap.size + 4, o, none⟩ = _ := fun o => b2.frozen (p := ⟨w.heap.size + 4, o, none⟩) (by go_size); have zb2_w5 : w.heap.size + 5 < w2.heap.size := (by omega); have kcb2_w5 : ∀ o, w2.cell? ⟨w.heap.size + 5, o, none⟩ = _ := fun o => b2.cell (p := ⟨w.heap.size + 5, o, none⟩) (by go_size); have kfb2_w5 : ∀ o, w2.frozen? ⟨w.heap.size + 5, o, none⟩ = _ := fun o => b2.frozen (p := ⟨w.heap.size + 5, o, none⟩) (by go_size); have zb2_w10 : w1.heap.size < w2.heap.size := (by omega); have kcb2_w10 : ∀ o, w2.cell? ⟨w1.heap.size, o, none⟩ = _ := fun o => b2.cell (p := ⟨w1.heap.size, o, none⟩) (by go_size); have kfb2_w10 : ∀ o, w2.frozen? ⟨w1.heap.size, o, none⟩ = _ := fun o => b2.frozen (p := ⟨w1.heap.size, o, none⟩) (by go_size); clear zzb2
        have hown2 := own_bl (hown1.alloc (Obj.cells #[.int .i64 (a + c), .int .i64 (b + d)] 34)) b2
        have hB2 : Below w.heap.size w w2 := (by repeat' (first | (with_reducible exact Below.refl _ _) | (with_reducible assumption) | (with_reducible refine below_drewN ?_ _) | (with_reducible refine Below.drew ?_) | (with_reducible refine Below.alloc ?_ ?_ _) | (with_reducible refine Below.setCell ?_ ?_ _) | (with_reducible refine Below.trans ?_ (Below.mono (by with_reducible assumption) ?_)) | go_size | (dsimp only; omega)))
        go_upto_region 9 with fail
        generalize hw5 : World.setCell _ _ _ = w5
        have hown5 : w5.ownsRow (w.heap.size + 3) 5 1 (.slice (some ⟨g, 0, none⟩) n cap) n (u8s (L.take n)) := by subst hw5; (repeat (with_reducible refine own_setg ?_ (by dsimp only; omega))); exact hown2
        have hB5 : Below w.heap.size w w5 := by subst hw5; exact (by repeat' (first | (with_reducible exact Below.refl _ _) | (with_reducible assumption) | (with_reducible refine below_drewN ?_ _) | (with_reducible refine Below.drew ?_) | (with_reducible refine Below.alloc ?_ ?_ _) | (with_reducible refine Below.setCell ?_ ?_ _) | (with_reducible refine Below.trans ?_ (Below.mono (by with_reducible assumption) ?_)) | go_size | (dsimp only; omega)))
        have hs5 : w.heap.size + 5 < w5.heap.size := by subst hw5; go_size
        have hg5' : g < w5.heap.size := (hown5.lt g rfl).2
        have f5_0 : w5.cell? ⟨w.heap.size, 0, none⟩ = some (.int .i64 (p)) := by subst hw5; go_simp
        have f5_1 : w5.cell? ⟨w.heap.size, 1, none⟩ = some (.int .i64 (q)) := by subst hw5; go_simp
        have x5_0 : w5.cell? ⟨w.heap.size + 1, 0, none⟩ = some (.int .i64 (0)) := by subst hw5; go_simp
        have x5_1 : w5.cell? ⟨w.heap.size + 1, 1, none⟩ = some (.int .i64 (0)) := by subst hw5; go_simp
        have y5_0 : w5.cell? ⟨w.heap.size + 2, 0, none⟩ = some (.int .i64 (0)) := by subst hw5; go_simp
        have y5_1 : w5.cell? ⟨w.heap.size + 2, 1, none⟩ = some (.int .i64 (0)) := by subst hw5; go_simp
        have l5_0 : w5.cell? ⟨w.heap.size + 4, 0, none⟩ = some (.int .i64 (a + c)) := by subst hw5; go_simp
        have l5_1 : w5.cell? ⟨w.heap.size + 4, 1, none⟩ = some (.int .i64 (b + d)) := by subst hw5; go_simp
        have r5_0 : w5.cell? ⟨w.heap.size + 5, 0, none⟩ = some (.int .i64 (c)) := by subst hw5; go_simp
        have r5_1 : w5.cell? ⟨w.heap.size + 5, 1, none⟩ = some (.int .i64 (d)) := by subst hw5; go_simp
        have xf5 : ∀ i, w5.frozen? ⟨w.heap.size + 1, i, none⟩ = false := by subst hw5; intro i; go_simp
        have yf5 : ∀ i, w5.frozen? ⟨w.heap.size + 2, i, none⟩ = false := by subst hw5; intro i; go_simp
        have lf5 : ∀ i, w5.frozen? ⟨w.heap.size + 4, i, none⟩ = false := by subst hw5; intro i; go_simp
        have rf5 : ∀ i, w5.frozen? ⟨w.heap.size + 5, i, none⟩ = false := by subst hw5; intro i; go_simp
        clear hw5 b1 b2 hown2 hown1 hB2 hB1 hown hB f0 f1 x0 x1 y0 y1 l0 l1 r0 r1 xf yf lf rf kcb2_w0 kfb2_w0 kcb2_w1 kfb2_w1 kcb2_w2 kfb2_w2 kcb2_w3 kfb2_w3 kcb2_w4 kfb2_w4 kcb2_w5 kfb2_w5 kcb1_0 kfb1_0 kcb1_1 kfb1_1 kcb1_2 kfb1_2 kcb1_3 kfb1_3 kcb1_4 kfb1_4 kcb1_5 kfb1_5 kcb2_w10 kfb2_w10
        go_wp2_with (at_builtin; refine wpList_append_lies _ rfl _ _ _ rfl (w.heap.size + 3) 5 i0 _ 1 1 under_u8s hi hz0 hz1 hz2 rfl (by omega) _ n (u8s (L.take n)) rfl (hown5.alloc _) ⟨w5.heap.size, 0, none⟩ 1 1 [.int .u8 82] rfl rfl (World.news_of_block (cs := #[.int .u8 82]) (t := 5) (fr := (0, 0)) (heap_alloc_new w5 _)) (by simp [Value.oneCell']) (by omega) (by unfold maxLen; omega) (by omega) (by simp; omega) (w5.heap.size + 1) (by simp) ?_; intro gg cap3 w3 hown3 hgrow hat hlt; obtain ⟨c0, ff0⟩ := grown_far' hgrow (w.heap.size) (by omega) (by omega); obtain ⟨c1, ff1⟩ := grown_far' hgrow (w.heap.size + 1) (by omega) (by omega); obtain ⟨c2, ff2⟩ := grown_far' hgrow (w.heap.size + 2) (by omega) (by omega); obtain ⟨c4, ff4⟩ := grown_far' hgrow (w.heap.size + 4) (by omega) (by omega); obtain ⟨c5, ff5⟩ := grown_far' hgrow (w.heap.size + 5) (by omega) (by omega))
        have hs3 : w.heap.size + 5 < w3.heap.size := by have h := hgrow.size; simp at h; omega
        have hgg : gg = g ∨ gg = w5.heap.size + 1 := by
          rcases (show some g = some gg ∨ gg = w5.heap.size + 1 from hat) with h | h
          · injection h with h; exact .inl h.symm
          · exact .inr h
        have ho3 : w3.ownsRow (w.heap.size + 3) 5 1 (.slice (some ⟨gg, 0, none⟩) (n + 1) cap3) (n + 1) (u8s (L.take (n + 1))) := by
          rw [HT1.out, u8s_snoc]; exact hown3
        have hB3 : Below w.heap.size w w3 := Below.grown (Below.alloc hB5 (by omega) _) hgrow (by simp; omega) (fun k hk => by have := (hown5.lt k hk).1; omega)
        go_roundw
        case rel => exact ⟨a + c, b + d, c, d, u, v - u, n + 1, gg, cap3, l, rfl, by omega, by omega, by omega, by omega, HON2.out, HWK2.out, by simp at hn; omega, Lib.hid HT2.out, ho3, by rw [c0]; exact f5_0, by rw [c0]; exact f5_1, by rw [c1]; exact x5_0, by rw [c1]; exact x5_1, by rw [c2]; exact y5_0, by rw [c2]; exact y5_1, by rw [c4]; exact l5_0, by rw [c4]; exact l5_1, by rw [c5]; exact r5_0, by rw [c5]; exact r5_1, (by intro i; rw [ff1]; exact xf5 i), (by intro i; rw [ff2]; exact yf5 i), (by intro i; rw [ff4]; exact lf5 i), (by intro i; rw [ff5]; exact rf5 i), hB3, hs3⟩
        case measure => (simp [lenOf]; simp at hn; omega)
end Go.Proofs.Ytgchbjlkbfdbdaa
