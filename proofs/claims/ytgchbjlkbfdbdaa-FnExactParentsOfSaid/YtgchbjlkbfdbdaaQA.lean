/- The way down the tree of fractions: the program's walk. -/
import Derived.Test.YtgchbjlkbfdbdaaAC
import Derived.Test.YtgchbjlkbfdbdaaAD
import Derived.Test.YtgchbjlkbfdbdaaH
import Derived.Test.YtgchbjlkbfdbdaaW
import Derived.Deep.RegionHeld3
import Derived.Deep.AppendLies
import Derived.Deep.DrawnRows
import Derived.Deep.DeepCutAuto
import Derived.Laws.IdiomStrings
import Derived.Outline
namespace Go.Proofs.Ytgchbjlkbfdbdaa
open Go.RowKit
open Plain (On)
set_option linter.unusedVariables false
set_option linter.unusedSimpArgs false
attribute [local go_sem] run_min_int4 run_max_int4
attribute [local go_sem] run_equalIn_Q
theorem under_u8s : Try.prog.underlying 55 = some (.slice 5) := by kernel_rfl
theorem info_u8 : (Try.prog.info? 5).map (fun i => (i.zero, i.size, i.bytes)) = some (some (.int .u8 0), 1, 1) := by kernel_rfl
def u8s (l : List UInt8) : List Value := l.map fun b => .int .u8 (b.toNat : Int)
theorem u8s_snoc (l : List UInt8) (b : UInt8) : u8s (l ++ [b]) = u8s l ++ [.int .u8 (b.toNat : Int)] := by simp [u8s]
theorem take_snoc8 {zs l : List UInt8} {x : UInt8} {n : Nat} (h1 : zs.take n ++ x :: l = zs) : zs.take (n + 1) = zs.take n ++ [x] ∧ zs.take (n + 1) ++ l = zs := by
  by_cases hn : n < zs.length
  · have e : zs[n] = x := by
      have := congrArg (fun t : List UInt8 => t[n]?) h1
      simp [List.getElem?_append, hn, Nat.le_of_lt hn] at this
      exact this.symm
    have e2 : zs.take (n + 1) = zs.take n ++ [x] := by rw [List.take_succ_eq_append_getElem hn, e]
    exact ⟨e2, by rw [e2, List.append_assoc]; exact h1⟩
  · have := congrArg List.length h1
    simp at this; omega
theorem cmp_on {p q a b c d u v : Int} (h : On p q a b c d u v) : cmpF p q (a + c) (b + d) = if v < u then -1 else if u < v then 1 else 0 := by
  unfold cmpF sgn
  rw [h.cmp]
  by_cases h1 : v < u
  · rw [if_pos (by omega), if_pos h1]
  · rw [if_neg (by omega), if_neg h1]
    by_cases h2 : u < v
    · rw [if_pos (by omega), if_pos h2]
    · rw [if_neg (by omega), if_neg h2]
theorem own_bl {w w' : World} {base n size : Nat} {e : TypeId} {v : Value} {xs : List Value} (h : w.ownsRow base e size v n xs) (hb : Below w.heap.size w w') : w'.ownsRow base e size v n xs := by
  have hlt := h.lt
  obtain ⟨h1, h2⟩ := h
  refine ⟨h1, h2.imp id (fun ⟨g, cap, cur, h1, h2, h3, h4⟩ => ⟨g, cap, cur, h1, h2, ?_, h4⟩)⟩
  rw [hb.block g (by have := (hlt g (by rw [h1]; rfl)).2; omega)]; exact h3
theorem grown_far {w2 w3 : World} {o : Obj} {g n cap : Nat} (hg : ((w2.alloc o).drew).grownBy w3 (Value.slice (some ⟨g, 0, none⟩) n cap).ownBlock) (bb : Nat) (h1 : bb < w2.heap.size) (h2 : bb ≠ g) :
    (∀ i, w3.cell? ⟨bb, i, none⟩ = w2.cell? ⟨bb, i, none⟩) ∧ (∀ i, w3.frozen? ⟨bb, i, none⟩ = w2.frozen? ⟨bb, i, none⟩) := by
  have hne : some bb ≠ (Value.slice (some ⟨g, 0, none⟩) n cap).ownBlock := by simpa [Value.ownBlock] using h2
  constructor
  · intro i
    rw [hg.cell_far ⟨bb, i, none⟩ (by simp; omega) hne]
    show (w2.alloc o).cell? _ = _
    exact World.cell?_alloc_lt _ _ _ h1
  · intro i
    rw [hg.frozen_far ⟨bb, i, none⟩ (by simp; omega) hne]
    show (w2.alloc o).frozen? _ = _
    exact World.frozen?_alloc_old _ _ _ (by dsimp only; omega)
theorem own_setg {w : World} {base n m g cap size : Nat} {e : TypeId} {u : Value} {xs : List Value} {p : Addr} (h : w.ownsRow base e size (.slice (some ⟨g, 0, none⟩) n cap) m xs) (hp : p.block ≠ g) : (w.setCell p u).ownsRow base e size (.slice (some ⟨g, 0, none⟩) n cap) m xs := by
  refine ⟨h.1, h.2.imp id (fun ⟨g', cap', cur, h1, h2, h3, h4⟩ => ⟨g', cap', cur, h1, h2, ?_, h4⟩)⟩
  injection h1 with e1 e2 e3
  injection e1 with e1
  injection e1 with e1
  subst e1
  rw [Below.heap_setCell w p u g (by omega)]; exact h3
theorem own_block {w : World} {g base : Nat} {e : TypeId} (hb : base ≤ g) (hg : w.heap[g]? = some (.cells #[] e (0, 0))) : w.ownsRow base e 1 (.slice (some ⟨g, 0, none⟩) 0 0) 0 (u8s []) :=
  ⟨rfl, .inr ⟨g, 0, #[], rfl, hb, hg, Nat.le_refl _, by unfold maxLen; omega, rfl, rfl⟩⟩
set_option maxRecDepth 100000 in
set_option maxHeartbeats 8000000 in
theorem descend_c (p q A B C D : Int) (L : List UInt8) (w : World) (hp0 : 1 ≤ p) (hp1 : p ≤ 10000) (hq0 : 1 ≤ q) (hq1 : q ≤ 10000) (hW : Plain.Walk 0 1 1 0 q p L A B C D) (hL : L.length ≤ 1000000) :
    Calls Try.prog 42 #[.agg #[.int .i64 p, .int .i64 q]] w fun e w' => e = .returned (.tuple #[.agg #[.int .i64 A, .int .i64 B], .agg #[.int .i64 C, .int .i64 D], .string ⟨L.toArray⟩]) ∧ Below w.heap.size w w' := by
  obtain ⟨i0, hi, hz0, hz1, hz2⟩ := info_parts info_u8
  have HW := Lib.hid hW
  have HO := Lib.hid (On.start hp0 hq0)
  clear hW
  go_enter Try.func42, Try.ntmps42
  go_wp2
  generalize hw0 : World.alloc _ _ = w0
  have f0 : w0.cell? ⟨w.heap.size, 0, none⟩ = some (.int .i64 p) := by subst hw0; go_simp
  have f1 : w0.cell? ⟨w.heap.size, 1, none⟩ = some (.int .i64 q) := by subst hw0; go_simp
  have x0 : w0.cell? ⟨w.heap.size + 1, 0, none⟩ = some (.int .i64 0) := by subst hw0; go_simp
  have x1 : w0.cell? ⟨w.heap.size + 1, 1, none⟩ = some (.int .i64 0) := by subst hw0; go_simp
  have y0 : w0.cell? ⟨w.heap.size + 2, 0, none⟩ = some (.int .i64 0) := by subst hw0; go_simp
  have y1 : w0.cell? ⟨w.heap.size + 2, 1, none⟩ = some (.int .i64 0) := by subst hw0; go_simp
  have l0 : w0.cell? ⟨w.heap.size + 4, 0, none⟩ = some (.int .i64 0) := by subst hw0; go_simp
  have l1 : w0.cell? ⟨w.heap.size + 4, 1, none⟩ = some (.int .i64 1) := by subst hw0; go_simp
  have r0 : w0.cell? ⟨w.heap.size + 5, 0, none⟩ = some (.int .i64 1) := by subst hw0; go_simp
  have r1 : w0.cell? ⟨w.heap.size + 5, 1, none⟩ = some (.int .i64 0) := by subst hw0; go_simp
  have xf : ∀ i, w0.frozen? ⟨w.heap.size + 1, i, none⟩ = false := by subst hw0; intro i; go_simp
  have yf : ∀ i, w0.frozen? ⟨w.heap.size + 2, i, none⟩ = false := by subst hw0; intro i; go_simp
  have lf : ∀ i, w0.frozen? ⟨w.heap.size + 4, i, none⟩ = false := by subst hw0; intro i; go_simp
  have rf : ∀ i, w0.frozen? ⟨w.heap.size + 5, i, none⟩ = false := by subst hw0; intro i; go_simp
  have hB0 : Below w.heap.size w w0 := by subst hw0; exact (by repeat' (first | (with_reducible exact Below.refl _ _) | (with_reducible assumption) | (with_reducible refine below_drewN ?_ _) | (with_reducible refine Below.drew ?_) | (with_reducible refine Below.alloc ?_ ?_ _) | (with_reducible refine Below.setCell ?_ ?_ _) | (with_reducible refine Below.trans ?_ (Below.mono (by with_reducible assumption) ?_)) | go_size | (dsimp only; omega)))
  have hs0 : w.heap.size + 5 < w0.heap.size := by subst hw0; go_size
  have hown0 : w0.ownsRow (w.heap.size + 3) 5 1 (.slice (some ⟨w.heap.size + 3, 0, none⟩) 0 0) 0 (u8s []) := by
    subst hw0
    have h := ((own_new (((w.alloc (Obj.cells #[.int .i64 p, .int .i64 q] 34)).alloc (Obj.cells #[.int .i64 0, .int .i64 0] 34)).alloc (Obj.cells #[.int .i64 0, .int .i64 0] 34)) (w.heap.size + 3) 5 1 (by simp)).alloc (Obj.cells #[.int .i64 0, .int .i64 1] 34)).alloc (Obj.cells #[.int .i64 1, .int .i64 0] 34)
    simpa [u8s] using h
  clear hw0
  go_loopw [7] (fun pv wr => ∃ (a b c d u v : Int) (n g cap : Nat) (rest : List UInt8), pv = .slice (some ⟨g, 0, none⟩) n cap ∧ w.heap.size + 3 ≤ g ∧ g < wr.heap.size ∧ g ≠ w.heap.size + 4 ∧ g ≠ w.heap.size + 5 ∧ Hid (On p q a b c d u v) ∧ Hid (Plain.Walk a b c d u v rest A B C D) ∧ n + rest.length = L.length ∧ Hid (L.take n ++ rest = L) ∧
    wr.ownsRow (w.heap.size + 3) 5 1 (.slice (some ⟨g, 0, none⟩) n cap) n (u8s (L.take n)) ∧
    wr.cell? ⟨w.heap.size, 0, none⟩ = some (.int .i64 p) ∧ wr.cell? ⟨w.heap.size, 1, none⟩ = some (.int .i64 q) ∧ wr.cell? ⟨w.heap.size + 1, 0, none⟩ = some (.int .i64 0) ∧ wr.cell? ⟨w.heap.size + 1, 1, none⟩ = some (.int .i64 0) ∧ wr.cell? ⟨w.heap.size + 2, 0, none⟩ = some (.int .i64 0) ∧ wr.cell? ⟨w.heap.size + 2, 1, none⟩ = some (.int .i64 0) ∧ wr.cell? ⟨w.heap.size + 4, 0, none⟩ = some (.int .i64 a) ∧ wr.cell? ⟨w.heap.size + 4, 1, none⟩ = some (.int .i64 b) ∧ wr.cell? ⟨w.heap.size + 5, 0, none⟩ = some (.int .i64 c) ∧ wr.cell? ⟨w.heap.size + 5, 1, none⟩ = some (.int .i64 d) ∧
    (∀ i, wr.frozen? ⟨w.heap.size + 1, i, none⟩ = false) ∧ (∀ i, wr.frozen? ⟨w.heap.size + 2, i, none⟩ = false) ∧ (∀ i, wr.frozen? ⟨w.heap.size + 4, i, none⟩ = false) ∧ (∀ i, wr.frozen? ⟨w.heap.size + 5, i, none⟩ = false) ∧ Below w.heap.size w wr ∧ w.heap.size + 5 < wr.heap.size) (fun pv wr => L.length - lenOf pv)
  case atStart => exact ⟨0, 1, 1, 0, q, p, 0, _, 0, L, rfl, by omega, by omega, by omega, by omega, HO.out, HW.out, by omega, Lib.hid (by simp), hown0, f0, f1, x0, x1, y0, y1, l0, l1, r0, r1, xf, yf, lf, rf, hB0, hs0⟩
  case round =>
    clear f0 f1 x0 x1 y0 y1 l0 l1 r0 r1 xf yf lf rf hB0 hs0 hown0
    obtain ⟨a, b, c, d, u, v, n, g, cap, rest, rfl, hg0, hg1, hg4, hg5, HON, HWK, hn, HT, hown, f0, f1, x0, x1, y0, y1, l0, l1, r0, r1, xf, yf, lf, rf, hB, hs⟩ := hrel
    have hbd := HON.out.bd
    have ha0 := HON.out.a0
    have hb0 := HON.out.b0
    have hc0 := HON.out.c0
    have hd0 := HON.out.d0
    have hu1 := HON.out.u1
    have hv1 := HON.out.v1
    have HCMP := Lib.hid (cmp_on HON.out)
    have M1 := mul_bd (x := p) (y := b + d) (A := 10000) (B := 10000) (by omega) (by omega) (by omega) (by omega)
    have M2 := mul_bd (x := a + c) (y := q) (A := 10000) (B := 10000) (by omega) (by omega) (by omega) (by omega)
    have hsL : w.heap.size < wr.heap.size := by omega
    have hs1 : w.heap.size + 1 < wr.heap.size := by omega
    have hs2 : w.heap.size + 2 < wr.heap.size := by omega
    have hs4 : w.heap.size + 4 < wr.heap.size := by omega
    go_wp2_with fail
    refine (compare_c p q (a + c) (b + d) _ (by omega) (by omega) (by omega)).mono ?_
    rintro e w2 ⟨rfl, b2⟩
    rw [HCMP.out]
    have zzb2 := b2.size; (try simp at zzb2); have zb2_w0 : w.heap.size < w2.heap.size := (by omega); have kcb2_w0 : ∀ o, w2.cell? ⟨w.heap.size, o, none⟩ = _ := fun o => b2.cell (p := ⟨w.heap.size, o, none⟩) (by go_size); have kfb2_w0 : ∀ o, w2.frozen? ⟨w.heap.size, o, none⟩ = _ := fun o => b2.frozen (p := ⟨w.heap.size, o, none⟩) (by go_size); have zb2_w1 : w.heap.size + 1 < w2.heap.size := (by omega); have kcb2_w1 : ∀ o, w2.cell? ⟨w.heap.size + 1, o, none⟩ = _ := fun o => b2.cell (p := ⟨w.heap.size + 1, o, none⟩) (by go_size); have kfb2_w1 : ∀ o, w2.frozen? ⟨w.heap.size + 1, o, none⟩ = _ := fun o => b2.frozen (p := ⟨w.heap.size + 1, o, none⟩) (by go_size); have zb2_w2 : w.heap.size + 2 < w2.heap.size := (by omega); have kcb2_w2 : ∀ o, w2.cell? ⟨w.heap.size + 2, o, none⟩ = _ := fun o => b2.cell (p := ⟨w.heap.size + 2, o, none⟩) (by go_size); have kfb2_w2 : ∀ o, w2.frozen? ⟨w.heap.size + 2, o, none⟩ = _ := fun o => b2.frozen (p := ⟨w.heap.size + 2, o, none⟩) (by go_size); have zb2_w3 : w.heap.size + 3 < w2.heap.size := (by omega); have kcb2_w3 : ∀ o, w2.cell? ⟨w.heap.size + 3, o, none⟩ = _ := fun o => b2.cell (p := ⟨w.heap.size + 3, o, none⟩) (by go_size); have kfb2_w3 : ∀ o, w2.frozen? ⟨w.heap.size + 3, o, none⟩ = _ := fun o => b2.frozen (p := ⟨w.heap.size + 3, o, none⟩) (by go_size); have zb2_w4 : w.heap.size + 4 < w2.heap.size := (by omega); have kcb2_w4 : ∀ o, w2.cell? ⟨w.heap.size + 4, o, none⟩ = _ := fun o => b2.cell (p := ⟨w.heap.size + 4, o, none⟩) (by go_size); have kfb2_w4 : ∀ o, w2.frozen? ⟨w.heap.size + 4, o, none⟩ = _ := fun o => b2.frozen (p := ⟨w.heap.size + 4, o, none⟩) (by go_size); have zb2_w5 : w.heap.size + 5 < w2.heap.size := (by omega); have kcb2_w5 : ∀ o, w2.cell? ⟨w.heap.size + 5, o, none⟩ = _ := fun o => b2.cell (p := ⟨w.heap.size + 5, o, none⟩) (by go_size); have kfb2_w5 : ∀ o, w2.frozen? ⟨w.heap.size + 5, o, none⟩ = _ := fun o => b2.frozen (p := ⟨w.heap.size + 5, o, none⟩) (by go_size); have zb2_wr0 : wr.heap.size < w2.heap.size := (by omega); have kcb2_wr0 : ∀ o, w2.cell? ⟨wr.heap.size, o, none⟩ = _ := fun o => b2.cell (p := ⟨wr.heap.size, o, none⟩) (by go_size); have kfb2_wr0 : ∀ o, w2.frozen? ⟨wr.heap.size, o, none⟩ = _ := fun o => b2.frozen (p := ⟨wr.heap.size, o, none⟩) (by go_size); clear zzb2
    have hown2 := own_bl (hown.alloc (Obj.cells #[.int .i64 (a + c), .int .i64 (b + d)] 34)) b2
    have hB2 : Below w.heap.size w w2 := (by repeat' (first | (with_reducible exact Below.refl _ _) | (with_reducible assumption) | (with_reducible refine below_drewN ?_ _) | (with_reducible refine Below.drew ?_) | (with_reducible refine Below.alloc ?_ ?_ _) | (with_reducible refine Below.setCell ?_ ?_ _) | (with_reducible refine Below.trans ?_ (Below.mono (by with_reducible assumption) ?_)) | go_size | (dsimp only; omega)))
    have hs2' : wr.heap.size < w2.heap.size := zb2_wr0
    by_cases h1 : v < u
    · rw [if_pos h1]
      obtain ⟨l, rfl, hw3⟩ : ∃ l, rest = 76 :: l ∧ Plain.Walk a b (a + c) (b + d) (u - v) v l A B C D := by
        cases HWK.out
        · omega
        · first | exact ⟨_, rfl, ‹_›⟩ | omega
        · first | exact ⟨_, rfl, ‹_›⟩ | omega
      have HON2 := Lib.hid (HON.out.left h1)
      have HWK2 := Lib.hid hw3
      clear hw3
      obtain ⟨t1, t2⟩ := take_snoc8 HT.out
      have HT1 := Lib.hid t1
      have HT2 := Lib.hid t2
      clear t1 t2
      go_wp2
      go_region_held3 (fun w' => w'.cell? ⟨wr.heap.size, 0, none⟩ = some (.int .i64 (a + c)) ∧ w'.cell? ⟨wr.heap.size, 1, none⟩ = some (.int .i64 (b + d))) (first | (go_split_ands; refine ⟨?_, ?_⟩ <;> ((repeat (with_reducible refine keep_set ?_ (by dsimp only; omega))); with_reducible assumption)) | go_keep | (go_split_ands; refine ⟨?_, ?_⟩ <;> (rw [hgrow.cell_far _ (by simp; omega) (by intro e; have := hown2.lt _ e.symm; dsimp only at this; simp [Value.ownBlock] at e; omega)]; assumption)))
        ((refine step_append_lies _ (by rfl) _ _ _ (by rfl) (w.heap.size + 3) 5 i0 _ 1 1 under_u8s hi hz0 hz1 hz2 rfl (by omega) _ n (u8s (L.take n)) (by rfl) ((hown2.alloc _).drew) ⟨w2.heap.size, 0, none⟩ 1 1 [.int .u8 76] (by rfl) (by rfl) (World.news_of_block (cs := #[.int .u8 76]) (t := 5) (fr := (0, 0)) (heap_alloc_new w2 _)) (by simp [Value.oneCell']) (by omega) (by unfold maxLen; omega) (by omega) (by simp; omega) (w2.heap.size + 1) (by simp) ?_; intro gg cap3 w3 hown3 hgrow hat hlt; obtain ⟨c0, ff0⟩ := grown_far hgrow (w.heap.size) (by omega) (by omega); obtain ⟨c1, ff1⟩ := grown_far hgrow (w.heap.size + 1) (by omega) (by omega); obtain ⟨c2, ff2⟩ := grown_far hgrow (w.heap.size + 2) (by omega) (by omega); obtain ⟨c4, ff4⟩ := grown_far hgrow (w.heap.size + 4) (by omega) (by omega); obtain ⟨c5, ff5⟩ := grown_far hgrow (w.heap.size + 5) (by omega) (by omega); have hsz3 := hgrow.size))
      have hs3 : w.heap.size + 5 < w3.heap.size := by have h := hgrow.size; simp at h; omega
      have hgg : gg = g ∨ gg = w2.heap.size + 1 := by
        rcases hat with h | h
        · simp [Value.ownBlock] at h; exact .inl h.symm
        · exact .inr h
      have ho3 : w3.ownsRow (w.heap.size + 3) 5 1 (.slice (some ⟨gg, 0, none⟩) (n + 1) cap3) (n + 1) (u8s (L.take (n + 1))) := by
        rw [HT1.out, u8s_snoc]; exact hown3
      have hB3 : Below w.heap.size w w3 := Below.grown (Below.drew (Below.alloc hB2 (by omega) _)) hgrow (by simp; omega) (fun k hk => by have := (hown2.lt k hk).1; omega)
      go_wp2
      go_roundw
      case rel => exact ⟨a, b, a + c, b + d, u - v, v, n + 1, gg, cap3, l, rfl, by omega, by go_size, by omega, by omega, HON2.out, HWK2.out, by simp at hn; omega, Lib.hid HT2.out, (by (repeat (with_reducible refine own_setg ?_ (by dsimp only; omega))); exact ho3), by go_simp, by go_simp, by go_simp, by go_simp, by go_simp, by go_simp, by go_simp, by go_simp, by go_simp, by go_simp, (by intro i; go_simp), (by intro i; go_simp), (by intro i; go_simp), (by intro i; go_simp), (by repeat' (first | (with_reducible exact Below.refl _ _) | (with_reducible assumption) | (with_reducible refine below_drewN ?_ _) | (with_reducible refine Below.drew ?_) | (with_reducible refine Below.alloc ?_ ?_ _) | (with_reducible refine Below.setCell ?_ ?_ _) | (with_reducible refine Below.trans ?_ (Below.mono (by with_reducible assumption) ?_)) | go_size | (dsimp only; omega))), by go_size⟩
      case measure => (simp [lenOf]; simp at hn; omega)
    · rw [if_neg h1]
      by_cases h2 : u < v
      · rw [if_pos h2]
        obtain ⟨l, rfl, hw3⟩ : ∃ l, rest = 82 :: l ∧ Plain.Walk (a + c) (b + d) c d u (v - u) l A B C D := by
          cases HWK.out
          · omega
          · first | exact ⟨_, rfl, ‹_›⟩ | omega
          · first | exact ⟨_, rfl, ‹_›⟩ | omega
        have HON2 := Lib.hid (HON.out.right h2)
        have HWK2 := Lib.hid hw3
        clear hw3
        obtain ⟨t1, t2⟩ := take_snoc8 HT.out
        have HT1 := Lib.hid t1
        have HT2 := Lib.hid t2
        clear t1 t2
        go_wp2
        go_region_held3 (fun w' => w'.cell? ⟨wr.heap.size, 0, none⟩ = some (.int .i64 (a + c)) ∧ w'.cell? ⟨wr.heap.size, 1, none⟩ = some (.int .i64 (b + d))) (first | (go_split_ands; refine ⟨?_, ?_⟩ <;> ((repeat (with_reducible refine keep_set ?_ (by dsimp only; omega))); with_reducible assumption)) | go_keep | (go_split_ands; refine ⟨?_, ?_⟩ <;> (rw [hgrow.cell_far _ (by simp; omega) (by intro e; have := hown2.lt _ e.symm; dsimp only at this; simp [Value.ownBlock] at e; omega)]; assumption)))
          ((refine step_append_lies _ (by rfl) _ _ _ (by rfl) (w.heap.size + 3) 5 i0 _ 1 1 under_u8s hi hz0 hz1 hz2 rfl (by omega) _ n (u8s (L.take n)) (by rfl) ((hown2.alloc _).drew) ⟨w2.heap.size, 0, none⟩ 1 1 [.int .u8 82] (by rfl) (by rfl) (World.news_of_block (cs := #[.int .u8 82]) (t := 5) (fr := (0, 0)) (heap_alloc_new w2 _)) (by simp [Value.oneCell']) (by omega) (by unfold maxLen; omega) (by omega) (by simp; omega) (w2.heap.size + 1) (by simp) ?_; intro gg cap3 w3 hown3 hgrow hat hlt; obtain ⟨c0, ff0⟩ := grown_far hgrow (w.heap.size) (by omega) (by omega); obtain ⟨c1, ff1⟩ := grown_far hgrow (w.heap.size + 1) (by omega) (by omega); obtain ⟨c2, ff2⟩ := grown_far hgrow (w.heap.size + 2) (by omega) (by omega); obtain ⟨c4, ff4⟩ := grown_far hgrow (w.heap.size + 4) (by omega) (by omega); obtain ⟨c5, ff5⟩ := grown_far hgrow (w.heap.size + 5) (by omega) (by omega); have hsz3 := hgrow.size))
        have hs3 : w.heap.size + 5 < w3.heap.size := by have h := hgrow.size; simp at h; omega
        have hgg : gg = g ∨ gg = w2.heap.size + 1 := by
          rcases hat with h | h
          · simp [Value.ownBlock] at h; exact .inl h.symm
          · exact .inr h
        have ho3 : w3.ownsRow (w.heap.size + 3) 5 1 (.slice (some ⟨gg, 0, none⟩) (n + 1) cap3) (n + 1) (u8s (L.take (n + 1))) := by
          rw [HT1.out, u8s_snoc]; exact hown3
        have hB3 : Below w.heap.size w w3 := Below.grown (Below.drew (Below.alloc hB2 (by omega) _)) hgrow (by simp; omega) (fun k hk => by have := (hown2.lt k hk).1; omega)
        go_wp2
        go_roundw
        case rel => exact ⟨a + c, b + d, c, d, u, v - u, n + 1, gg, cap3, l, rfl, by omega, by go_size, by omega, by omega, HON2.out, HWK2.out, by simp at hn; omega, Lib.hid HT2.out, (by (repeat (with_reducible refine own_setg ?_ (by dsimp only; omega))); exact ho3), by go_simp, by go_simp, by go_simp, by go_simp, by go_simp, by go_simp, by go_simp, by go_simp, by go_simp, by go_simp, (by intro i; go_simp), (by intro i; go_simp), (by intro i; go_simp), (by intro i; go_simp), (by repeat' (first | (with_reducible exact Below.refl _ _) | (with_reducible assumption) | (with_reducible refine below_drewN ?_ _) | (with_reducible refine Below.drew ?_) | (with_reducible refine Below.alloc ?_ ?_ _) | (with_reducible refine Below.setCell ?_ ?_ _) | (with_reducible refine Below.trans ?_ (Below.mono (by with_reducible assumption) ?_)) | go_size | (dsimp only; omega))), by go_size⟩
        case measure => (simp [lenOf]; simp at hn; omega)
      · rw [if_neg h2]
        obtain ⟨rfl, rfl, rfl, rfl, rfl, rfl, rfl⟩ : u = 1 ∧ v = 1 ∧ rest = [] ∧ a = A ∧ b = B ∧ c = C ∧ d = D := by
          cases HWK.out
          · exact ⟨rfl, rfl, rfl, rfl, rfl, rfl, rfl⟩
          · omega
          · omega
        obtain rfl : n = L.length := by simpa using hn
        have hcells : ∀ j (hj : j < L.length), w2.drew.cell? ((⟨g, 0, none⟩ : Addr).add j) = some (.int .u8 (L[j].toNat : Int)) := by
          intro j hj
          have := @World.ownsRow.cells w2 _ _ _ _ _ _ hown2 (g := g) rfl j (.int .u8 (L[j].toNat : Int)) (by simp [u8s, hj])
          exact this
        have hc := fun (W : World) (h : ∀ j (hj : j < L.length), W.cell? ((⟨g, 0, none⟩ : Addr).add j) = some (.int .u8 (L[j].toNat : Int))) => run_convert_bytes_back (P := Try.prog) W 55 9 5 ⟨g, 0, none⟩ cap L under_u8s Try.underlying5 Try.underlying9 h
        have hset : ∀ (W : World) (p : Addr) (x : Value), p.block ≠ g → (∀ j (hj : j < L.length), W.cell? ((⟨g, 0, none⟩ : Addr).add j) = some (.int .u8 (L[j].toNat : Int))) → (∀ j (hj : j < L.length), (W.setCell p x).cell? ((⟨g, 0, none⟩ : Addr).add j) = some (.int .u8 (L[j].toNat : Int))) := by
          intro W p x hp h j hj
          rw [World.cell?_of_block (Below.heap_setCell W p x _ (by rw [show ((⟨g, 0, none⟩ : Addr).add j).block = g from by unfold Addr.add; split <;> rfl]; exact fun e => hp e.symm))]
          exact h j hj
        have h0 := hset w2 ⟨w.heap.size + 1, 0, none⟩ (.int .i64 a) (by dsimp only; omega) hcells
        have h1' := hset _ ⟨w.heap.size + 1, 1, none⟩ (.int .i64 b) (by dsimp only; omega) h0
        have h2' := hset _ ⟨w.heap.size + 1 + 1, 0, none⟩ (.int .i64 c) (by dsimp only; omega) h1'
        have h3' := hset _ ⟨w.heap.size + 1 + 1, 1, none⟩ (.int .i64 d) (by dsimp only; omega) h2'
        have k0 := hc w2.drew hcells
        have k1 := hc (World.drew (World.setCell (World.setCell w2 ⟨w.heap.size + 1, 0, none⟩ (.int .i64 a)) ⟨w.heap.size + 1, 1, none⟩ (.int .i64 b))) h1'
        have k2 := hc (World.drew (World.setCell (World.setCell (World.setCell (World.setCell w2 ⟨w.heap.size + 1, 0, none⟩ (.int .i64 a)) ⟨w.heap.size + 1, 1, none⟩ (.int .i64 b)) ⟨w.heap.size + 1 + 1, 0, none⟩ (.int .i64 c)) ⟨w.heap.size + 1 + 1, 1, none⟩ (.int .i64 d))) h3'
        clear hc hset h0 h1' h2' h3' hcells
        go_wp2
        go_region
        go_wp2
        exact bodyPost_ret (v := .tuple #[.agg #[.int .i64 a, .int .i64 b], .agg #[.int .i64 c, .int .i64 d], .string ⟨L.toArray⟩]) (by simp only [results, Try.results42]; go_simp) rfl ⟨rfl, (by repeat' (first | (with_reducible exact Below.refl _ _) | (with_reducible assumption) | (with_reducible refine below_drewN ?_ _) | (with_reducible refine Below.drew ?_) | (with_reducible refine Below.alloc ?_ ?_ _) | (with_reducible refine Below.setCell ?_ ?_ _) | (with_reducible refine Below.trans ?_ (Below.mono (by with_reducible assumption) ?_)) | go_size | (dsimp only; omega)))⟩
end Go.Proofs.Ytgchbjlkbfdbdaa
