/- FareyRow. -/
import Derived.Test.YtgchbjlkbfdbdaaFL
import Derived.Test.YtgchbjlkbfdbdaaZ
import Derived.Deep.AppendLies
import Derived.Deep.DeepCutAuto
namespace Go.Proofs.Ytgchbjlkbfdbdaa
open Go.RowKit
set_option linter.unusedVariables false
set_option linter.unusedSimpArgs false
attribute [local go_sem] run_min_int4 run_max_int4
attribute [local go_sem] run_equalIn_Q
/-- the rest of a row behind x / y, as a flat list -/
inductive RowR (n : Int) : Int → Int → List Int → Prop
  | stop : RowR n 1 1 []
  | step (x y r s : Int) (l : List Int) : 0 ≤ x → x < y → y ≤ n → NextF n x y r s → RowR n r s l → RowR n x y (r :: s :: l)
theorem nextF_gcd {n x y r s : Int} (h : NextF n x y r s) : Int.gcd r s = 1 := by
  have h1 : (Int.gcd r s : Int) ∣ r := Int.gcd_dvd_left ..
  have h2 : (Int.gcd r s : Int) ∣ s := Int.gcd_dvd_right ..
  have h3 : (Int.gcd r s : Int) ∣ r * y - x * s := Int.dvd_sub (Int.dvd_mul_of_dvd_left h1) (Int.dvd_mul_of_dvd_right h2)
  rw [h.one] at h3
  have := Int.le_of_dvd (by omega) h3
  have hne : Int.gcd r s ≠ 0 := by
    intro h0
    rw [h0] at h3
    simp at h3
  omega
theorem row_up {n x y r s : Int} (h : NextF n x y r s) (hn : n ≤ 20) (hy : 1 ≤ y) (hyn : y ≤ n) : 400 * x / y + 1 ≤ 400 * r / s := by
  have hs := h.pos
  have hsn := h.le
  have h1 : y * (400 * x / y) ≤ 400 * x := by
    have e1 := Int.mul_ediv_add_emod (400 * x) y
    have e2 := Int.emod_nonneg (400 * x) (show y ≠ 0 by omega)
    omega
  have h2 : s * y ≤ 400 := by
    have a1 : s * y ≤ 20 * y := Int.mul_le_mul_of_nonneg_right (by omega) (by omega)
    omega
  have h3 : (y * (400 * x / y)) * s ≤ (400 * x) * s := Int.mul_le_mul_of_nonneg_right h1 (by omega)
  have ho := h.one
  generalize 400 * x / y = a at *
  apply Int.le_ediv_of_mul_le (by omega)
  have h4 : y * ((a + 1) * s) ≤ y * (400 * r) := by
    have e1 : y * ((a + 1) * s) = (y * a) * s + s * y := by grind
    have e2 : y * (400 * r) = (400 * x) * s + 400 := by grind
    omega
  exact Int.le_of_mul_le_mul_left h4 (by omega)
theorem row_ex (n : Int) (hn : n ≤ 20) : ∀ m : Nat, ∀ x y : Int, 0 ≤ x → (x < y ∨ (x = 1 ∧ y = 1)) → 1 ≤ y → y ≤ n → Int.gcd x y = 1 → 400 - 400 * x / y ≤ m → ∃ l, RowR n x y l ∧ l.length ≤ 2 * m := by
  intro m
  induction m with
  | zero =>
    intro x y hx hxy hy hyn hg hm
    rcases hxy with hxy | ⟨rfl, rfl⟩
    · exfalso
      have : 400 * x / y < 400 := Int.ediv_lt_of_lt_mul (by omega) (by omega)
      omega
    · exact ⟨[], .stop, by simp⟩
  | succ m ih =>
    intro x y hx hxy hy hyn hg hm
    rcases hxy with hxy | ⟨rfl, rfl⟩
    · obtain ⟨r, s, h⟩ := nextF_ex hx hy hyn hg
      have hst := nextF_start h hx hxy
      have hup := row_up h hn hy hyn
      obtain ⟨l, hl, hlen⟩ := ih r s (by omega) (by by_cases e : r = s; exact .inr (hst.2.1 e); exact .inl (by omega)) h.pos h.le (nextF_gcd h) (by omega)
      exact ⟨r :: s :: l, .step x y r s l hx hxy hyn h hl, by simp; omega⟩
    · exact ⟨[], .stop, by simp⟩
theorem take_two {zs l : List Int} {r s : Int} {m : Nat} (hm : 2 * m ≤ zs.length) (h : zs.take (2 * m) ++ r :: s :: l = zs) : zs.take (2 * (m + 1)) = zs.take (2 * m) ++ [r, s] ∧ zs.take (2 * (m + 1)) ++ l = zs ∧ 2 * (m + 1) ≤ zs.length := by
  have hl : (zs.take (2 * m)).length = 2 * m := by rw [List.length_take]; omega
  have e1 : zs.take (2 * (m + 1)) = zs.take (2 * m) ++ [r, s] := by
    conv => lhs; rw [← h]
    rw [show 2 * (m + 1) = (zs.take (2 * m)).length + 2 by omega, List.take_length_add_append]
    rfl
  have hlen := congrArg List.length h
  simp at hlen
  exact ⟨e1, by rw [e1, List.append_assoc]; exact h, by omega⟩
theorem under_Qs : Try.prog.underlying 28 = some (.slice 34) := by kernel_rfl
theorem info_Q : (Try.prog.info? 34).map (fun i => (i.zero, i.size, i.bytes)) = some (some (.agg #[.int .i64 0, .int .i64 0]), 2, 16) := by kernel_rfl
theorem grownF_far {w2 w3 : World} {o : Obj} {g n cap : Nat} (hg : (w2.alloc o).grownBy w3 (Value.slice (some ⟨g, 0, none⟩) n cap).ownBlock) (bb : Nat) (h1 : bb < w2.heap.size) (h2 : bb ≠ g) :
    (∀ i, w3.cell? ⟨bb, i, none⟩ = w2.cell? ⟨bb, i, none⟩) ∧ (∀ i, w3.frozen? ⟨bb, i, none⟩ = w2.frozen? ⟨bb, i, none⟩) := by
  have hne : some bb ≠ (Value.slice (some ⟨g, 0, none⟩) n cap).ownBlock := by simpa [Value.ownBlock] using h2
  constructor
  · intro i
    rw [hg.cell_far ⟨bb, i, none⟩ (by simp; omega) hne]
    exact World.cell?_alloc_lt _ _ _ h1
  · intro i
    rw [hg.frozen_far ⟨bb, i, none⟩ (by simp; omega) hne]
    exact World.frozen?_alloc_old _ _ _ (by dsimp only; omega)
theorem ownF_bl {w w' : World} {base n size : Nat} {e : TypeId} {v : Value} {xs : List Value} (h : w.ownsRow base e size v n xs) (hb : Below w.heap.size w w') : w'.ownsRow base e size v n xs := by
  have hlt := h.lt
  obtain ⟨h1, h2⟩ := h
  refine ⟨h1, h2.imp id (fun ⟨g, cap, cur, h1, h2, h3, h4⟩ => ⟨g, cap, cur, h1, h2, ?_, h4⟩)⟩
  rw [hb.block g (by have := (hlt g (by rw [h1]; rfl)).2; omega)]; exact h3
theorem ownF_setg {w : World} {base n m g cap size : Nat} {e : TypeId} {u : Value} {xs : List Value} {p : Addr} (h : w.ownsRow base e size (.slice (some ⟨g, 0, none⟩) n cap) m xs) (hp : p.block ≠ g) : (w.setCell p u).ownsRow base e size (.slice (some ⟨g, 0, none⟩) n cap) m xs := by
  refine ⟨h.1, h.2.imp id (fun ⟨g', cap', cur, h1, h2, h3, h4⟩ => ⟨g', cap', cur, h1, h2, ?_, h4⟩)⟩
  injection h1 with e1 e2 e3
  injection e1 with e1
  injection e1 with e1
  subst e1
  rw [Below.heap_setCell w p u g (by omega)]; exact h3
theorem ownQ_new (w : World) (a b : Int) : (w.alloc (Obj.cells #[.int .i64 a, .int .i64 b] 34)).ownsRow w.heap.size 34 2 (.slice (some ⟨w.heap.size, 0, none⟩) 1 1) 1 ([a, b].map (Value.int .i64)) :=
  ⟨rfl, .inr ⟨w.heap.size, 1, #[.int .i64 a, .int .i64 b], rfl, Nat.le_refl _, heap_alloc_new w _, Nat.le_refl _, by unfold maxLen; omega, rfl, rfl⟩⟩
theorem FareyRow_no (n : Int) (w : World) (h : (decide (1 ≤ n) && decide (n ≤ 20)) = false) :
    Calls Try.prog 16 #[.int .i64 n] w fun e w' => ∃ v, e = .returned (.tuple #[v, .int .i64 2]) ∧ OwnF 2 w.heap.size w' v [] ∧ Below w.heap.size w w' := by
  have H := Lib.hid h
  clear h
  go_enter Try.func16, Try.ntmps16
  go_wp2_with fail
  refine (within_c _ _ _ _).mono ?_
  rintro e w2 ⟨rfl, rfl⟩
  rw [H.out]
  go_wp2
  go_returns
  exact ⟨_, rfl, OwnF.nil, Below.refl _ _⟩
set_option maxRecDepth 100000 in
set_option maxHeartbeats 4000000 in
theorem FareyRow_yes (n : Int) (L : List Int) (w : World) (h1 : 1 ≤ n) (h20 : n ≤ 20) (hR : RowR n 0 1 L) (hL : L.length ≤ 100000) :
    Calls Try.prog 16 #[.int .i64 n] w fun e w' => ∃ v, e = .returned (.tuple #[v, .int .i64 0]) ∧ OwnF 2 w.heap.size w' v (0 :: 1 :: L) ∧ Below w.heap.size w w' := by
  obtain ⟨i0, hi, hz0, hz1, hz2⟩ := info_parts info_Q
  have hr : (decide (1 ≤ n) && decide (n ≤ 20)) = true := by simp; omega
  have HIN := Lib.hid hr
  have HR := Lib.hid hR
  generalize hzs : (0 :: 1 :: L : List Int) = zs
  have hzl : zs.length = L.length + 2 := by rw [← hzs]; rfl
  have HT0 : Hid (zs.take 2 = [0, 1]) := Lib.hid (by rw [← hzs]; rfl)
  have HT0' : Hid (zs.take (2 * 1) ++ L = zs) := Lib.hid (by rw [← hzs]; rfl)
  have hown0 := (ownQ_new w 0 1).alloc (Obj.cells #[.int .i64 0, .int .i64 1] 34)
  have HZL := Lib.hid hzl
  have hzb : zs.length ≤ 200000 := by omega
  clear hr hR hzs hzl
  go_enter Try.func16, Try.ntmps16
  go_wp2_with fail
  refine (within_c _ _ _ _).mono ?_
  rintro e w2 ⟨rfl, rfl⟩
  rw [HIN.out]
  go_wp2
  go_loopw [4, 5] (fun v p wr => ∃ (x y : Int) (m gv cap g : Nat) (rest : List Int), v = .slice (some ⟨gv, 0, none⟩) m cap ∧ p = .pointer (some ⟨g, 0, none⟩) ∧ gv ≠ g ∧ w.heap.size ≤ gv ∧ w.heap.size ≤ g ∧ g < wr.heap.size ∧ Hid (RowR n x y rest) ∧ 2 * m ≤ zs.length ∧ Hid (zs.take (2 * m) ++ rest = zs) ∧
      wr.ownsRow w.heap.size 34 2 (.slice (some ⟨gv, 0, none⟩) m cap) m ((zs.take (2 * m)).map (Value.int .i64)) ∧
      wr.cell? ⟨g, 0, none⟩ = some (.int .i64 x) ∧ wr.cell? ⟨g, 1, none⟩ = some (.int .i64 y) ∧ (∀ i, wr.frozen? ⟨g, i, none⟩ = false) ∧ Below w.heap.size w wr) (fun v p wr => zs.length - lenOf v)
  case atStart => exact ⟨0, 1, 1, w.heap.size, 1, w.heap.size + 1, L, rfl, rfl, by omega, by omega, by omega, by simp, HR.out, by rw [HZL.out]; omega, HT0'.out, (by rw [show 2 * 1 = 2 from rfl, HT0.out]; exact hown0), by go_cell, by go_cell, (by intro i; first | (simp; done) | (go_simp; done)), (by repeat' (first | (with_reducible exact Below.refl _ _) | (with_reducible assumption) | (with_reducible refine below_drewN ?_ _) | (with_reducible refine Below.drew ?_) | (with_reducible refine Below.alloc ?_ ?_ _) | (with_reducible refine Below.setCell ?_ ?_ _) | (with_reducible refine Below.trans ?_ (Below.mono (by with_reducible assumption) ?_)) | go_size | (dsimp only; omega)))⟩
  case round =>
    obtain ⟨x, y, m, gv, cap, g, rest, rfl, rfl, hgg, hgv, hg, hgs, HRR, hml, HT, hown, c0, c1, fg, hB⟩ := hrel
    clear hown0
    have hgvs : gv < wr.heap.size := (hown.lt gv rfl).2
    have hws : w.heap.size ≤ wr.heap.size := by omega
    by_cases hs : x = 1 ∧ y = 1
    · obtain ⟨rfl, rfl⟩ := hs
      obtain rfl : rest = [] := by
        cases HRR.out
        · rfl
        · omega
      go_wp2
      have e2 : (zs.take (2 * m)) = zs := by simpa using HT.out
      rw [e2] at hown
      exact bodyPost_ret (v := .tuple #[.slice (some ⟨gv, 0, none⟩) m cap, .int .i64 0]) (by simp only [results, Try.results16]; go_simp) rfl ⟨_, rfl, OwnF.of_row (by omega) hown, hB⟩
    · obtain ⟨r, s, l, rfl, hx, hxy, hyn, hN, hRR⟩ : ∃ r s l, rest = r :: s :: l ∧ 0 ≤ x ∧ x < y ∧ y ≤ n ∧ NextF n x y r s ∧ RowR n r s l := by
        cases HRR.out
        · exact absurd ⟨rfl, rfl⟩ hs
        · exact ⟨_, _, _, rfl, ‹_›, ‹_›, ‹_›, ‹_›, ‹_›⟩
      have hst : (x == 1 && y == 1) = false := by
        cases e1 : (x == 1) <;> cases e2 : (y == 1) <;> try rfl
        rw [beq_iff_eq] at e1 e2
        exact absurd ⟨e1, e2⟩ hs
      have HN := Lib.hid hN
      have HR2 := Lib.hid hRR
      obtain ⟨t1, t2, t3⟩ := take_two hml HT.out
      have HT1 := Lib.hid t1
      have HT2 := Lib.hid t2
      clear hN hRR t1 t2 hs
      go_wp2_with fail
      refine (nextInRow_c n x y r s _ HN.out hx hxy (by omega) hyn).mono ?_
      rintro e w2 ⟨rfl, b2⟩
      have hown2 := ownF_bl hown b2
      have z2 := b2.size
      have k0 : w2.cell? ⟨g, 0, none⟩ = some (.int .i64 x) := by rw [b2.cell (p := ⟨g, 0, none⟩) hgs]; exact c0
      have k1 : w2.cell? ⟨g, 1, none⟩ = some (.int .i64 y) := by rw [b2.cell (p := ⟨g, 1, none⟩) hgs]; exact c1
      have kf : ∀ i, w2.frozen? ⟨g, i, none⟩ = false := by intro i; rw [b2.frozen (p := ⟨g, i, none⟩) hgs]; exact fg i
      have hB2 : Below w.heap.size w w2 := Below.trans hB (Below.mono b2 hws)
      clear hown c0 c1 fg hB b2
      go_upto_region 7 with fail
      generalize hw5 : World.setCell _ _ _ = w5
      have hown5 : w5.ownsRow w.heap.size 34 2 (.slice (some ⟨gv, 0, none⟩) m cap) m ((zs.take (2 * m)).map (Value.int .i64)) := by subst hw5; (repeat (with_reducible refine ownF_setg ?_ (by dsimp only; omega))); exact hown2
      have hB5 : Below w.heap.size w w5 := by subst hw5; exact (by repeat' (first | (with_reducible exact Below.refl _ _) | (with_reducible assumption) | (with_reducible refine below_drewN ?_ _) | (with_reducible refine Below.drew ?_) | (with_reducible refine Below.alloc ?_ ?_ _) | (with_reducible refine Below.setCell ?_ ?_ _) | (with_reducible refine Below.trans ?_ (Below.mono (by with_reducible assumption) ?_)) | go_size | (dsimp only; omega)))
      have hs5 : w2.heap.size ≤ w5.heap.size := by subst hw5; simp
      have e0 : w5.cell? ⟨g, 0, none⟩ = some (.int .i64 r) := by subst hw5; go_simp
      have e1 : w5.cell? ⟨g, 1, none⟩ = some (.int .i64 s) := by subst hw5; go_simp
      clear hw5 hown2 hB2 k0 k1 kf
      go_wp2_with (at_builtin; refine wpList_append_lies _ rfl _ _ _ rfl w.heap.size 34 i0 _ 2 16 under_Qs hi hz0 hz1 hz2 rfl (by omega) _ m ((zs.take (2 * m)).map (Value.int .i64)) rfl (hown5.alloc _) ⟨w5.heap.size, 0, none⟩ 1 1 [.int .i64 r, .int .i64 s] rfl rfl (World.news_of_block (cs := #[.int .i64 r, .int .i64 s]) (t := 34) (fr := (0, 0)) (heap_alloc_new w5 _)) (by simp [Value.oneCell']) (by omega) (by unfold maxLen; omega) (by omega) (by simp; omega) (w5.heap.size + 1) (by simp) ?_; intro gg cap3 w3 hown3 hgrow hat hlt; obtain ⟨c0, f0⟩ := grownF_far hgrow g (by omega) (by omega))
      have hgg3 : gg = gv ∨ gg = w5.heap.size + 1 := by
        rcases (show some gv = some gg ∨ gg = w5.heap.size + 1 from hat) with h | h
        · injection h with h; exact .inl h.symm
        · exact .inr h
      have ho3 : w3.ownsRow w.heap.size 34 2 (.slice (some ⟨gg, 0, none⟩) (m + 1) cap3) (m + 1) ((zs.take (2 * (m + 1))).map (Value.int .i64)) := by
        rw [HT1.out]; simpa using hown3
      have hB3 : Below w.heap.size w w3 := Below.grown (Below.alloc hB5 (by omega) _) hgrow (by simp; omega) (fun k hk => by have := (hown5.lt k hk).1; omega)
      have hs3 : w.heap.size ≤ w3.heap.size := by omega
      go_roundw
      case rel => exact ⟨r, s, m + 1, gg, cap3, w3.heap.size, l, rfl, rfl, by omega, by omega, by omega, by simp, HR2.out, t3, HT2.out, ho3.alloc _, by go_simp, by go_simp, (by intro i; go_simp), (by repeat' (first | (with_reducible exact Below.refl _ _) | (with_reducible assumption) | (with_reducible refine below_drewN ?_ _) | (with_reducible refine Below.drew ?_) | (with_reducible refine Below.alloc ?_ ?_ _) | (with_reducible refine Below.setCell ?_ ?_ _) | (with_reducible refine Below.trans ?_ (Below.mono (by with_reducible assumption) ?_)) | go_size | (dsimp only; omega)))⟩
      case measure => (simp [lenOf]; omega)
theorem sFareyRow_no (n : Int) (w : World) (h : (decide (1 ≤ n) && decide (n ≤ 20)) = false) :
    Calls Try.prog 15 #[.int .i64 n] w fun e w' => ∃ v, e = .returned (.tuple #[v, .int .i64 2]) ∧ OwnF 2 w.heap.size w' v [] ∧ Below w.heap.size w w' := by
  have H := Lib.hid h
  clear h
  go_enter Try.func15, Try.ntmps15
  go_wp2_with fail
  refine (l01In_c _ _ _ _).mono ?_
  rintro e w2 ⟨rfl, rfl⟩
  rw [H.out]
  go_wp2
  go_returns
  exact ⟨_, rfl, OwnF.nil, Below.refl _ _⟩
set_option maxRecDepth 100000 in
set_option maxHeartbeats 4000000 in
theorem sFareyRow_yes (n : Int) (L : List Int) (w : World) (h1 : 1 ≤ n) (h20 : n ≤ 20) (hR : RowR n 0 1 L) (hL : L.length ≤ 100000) :
    Calls Try.prog 15 #[.int .i64 n] w fun e w' => ∃ v, e = .returned (.tuple #[v, .int .i64 0]) ∧ OwnF 2 w.heap.size w' v (0 :: 1 :: L) ∧ Below w.heap.size w w' := by
  obtain ⟨i0, hi, hz0, hz1, hz2⟩ := info_parts info_Q
  have hr : (decide (1 ≤ n) && decide (n ≤ 20)) = true := by simp; omega
  have HIN := Lib.hid hr
  have HR := Lib.hid hR
  generalize hzs : (0 :: 1 :: L : List Int) = zs
  have hzl : zs.length = L.length + 2 := by rw [← hzs]; rfl
  have HT0 : Hid (zs.take 2 = [0, 1]) := Lib.hid (by rw [← hzs]; rfl)
  have HT0' : Hid (zs.take (2 * 1) ++ L = zs) := Lib.hid (by rw [← hzs]; rfl)
  have hown0 := (ownQ_new w 0 1).alloc (Obj.cells #[.int .i64 0, .int .i64 1] 34)
  have HZL := Lib.hid hzl
  have hzb : zs.length ≤ 200000 := by omega
  clear hr hR hzs hzl
  go_enter Try.func15, Try.ntmps15
  go_wp2_with fail
  refine (l01In_c _ _ _ _).mono ?_
  rintro e w2 ⟨rfl, rfl⟩
  rw [HIN.out]
  go_wp2
  go_loopw [4, 5] (fun v p wr => ∃ (x y : Int) (m gv cap g : Nat) (rest : List Int), v = .slice (some ⟨gv, 0, none⟩) m cap ∧ p = .pointer (some ⟨g, 0, none⟩) ∧ gv ≠ g ∧ w.heap.size ≤ gv ∧ w.heap.size ≤ g ∧ g < wr.heap.size ∧ Hid (RowR n x y rest) ∧ 2 * m ≤ zs.length ∧ Hid (zs.take (2 * m) ++ rest = zs) ∧
      wr.ownsRow w.heap.size 34 2 (.slice (some ⟨gv, 0, none⟩) m cap) m ((zs.take (2 * m)).map (Value.int .i64)) ∧
      wr.cell? ⟨g, 0, none⟩ = some (.int .i64 x) ∧ wr.cell? ⟨g, 1, none⟩ = some (.int .i64 y) ∧ (∀ i, wr.frozen? ⟨g, i, none⟩ = false) ∧ Below w.heap.size w wr) (fun v p wr => zs.length - lenOf v)
  case atStart => exact ⟨0, 1, 1, w.heap.size, 1, w.heap.size + 1, L, rfl, rfl, by omega, by omega, by omega, by simp, HR.out, by rw [HZL.out]; omega, HT0'.out, (by rw [show 2 * 1 = 2 from rfl, HT0.out]; exact hown0), by go_cell, by go_cell, (by intro i; first | (simp; done) | (go_simp; done)), (by repeat' (first | (with_reducible exact Below.refl _ _) | (with_reducible assumption) | (with_reducible refine below_drewN ?_ _) | (with_reducible refine Below.drew ?_) | (with_reducible refine Below.alloc ?_ ?_ _) | (with_reducible refine Below.setCell ?_ ?_ _) | (with_reducible refine Below.trans ?_ (Below.mono (by with_reducible assumption) ?_)) | go_size | (dsimp only; omega)))⟩
  case round =>
    obtain ⟨x, y, m, gv, cap, g, rest, rfl, rfl, hgg, hgv, hg, hgs, HRR, hml, HT, hown, c0, c1, fg, hB⟩ := hrel
    clear hown0
    have hgvs : gv < wr.heap.size := (hown.lt gv rfl).2
    have hws : w.heap.size ≤ wr.heap.size := by omega
    by_cases hs : x = 1 ∧ y = 1
    · obtain ⟨rfl, rfl⟩ := hs
      obtain rfl : rest = [] := by
        cases HRR.out
        · rfl
        · omega
      go_wp2
      have e2 : (zs.take (2 * m)) = zs := by simpa using HT.out
      rw [e2] at hown
      exact bodyPost_ret (v := .tuple #[.slice (some ⟨gv, 0, none⟩) m cap, .int .i64 0]) (by simp only [results, Try.results15]; go_simp) rfl ⟨_, rfl, OwnF.of_row (by omega) hown, hB⟩
    · obtain ⟨r, s, l, rfl, hx, hxy, hyn, hN, hRR⟩ : ∃ r s l, rest = r :: s :: l ∧ 0 ≤ x ∧ x < y ∧ y ≤ n ∧ NextF n x y r s ∧ RowR n r s l := by
        cases HRR.out
        · exact absurd ⟨rfl, rfl⟩ hs
        · exact ⟨_, _, _, rfl, ‹_›, ‹_›, ‹_›, ‹_›, ‹_›⟩
      have hst : (x == 1 && y == 1) = false := by
        cases e1 : (x == 1) <;> cases e2 : (y == 1) <;> try rfl
        rw [beq_iff_eq] at e1 e2
        exact absurd ⟨e1, e2⟩ hs
      have HN := Lib.hid hN
      have HR2 := Lib.hid hRR
      obtain ⟨t1, t2, t3⟩ := take_two hml HT.out
      have HT1 := Lib.hid t1
      have HT2 := Lib.hid t2
      clear hN hRR t1 t2 hs
      go_wp2_with fail
      refine (l03Next_c n x y r s _ HN.out hx hxy (by omega) hyn).mono ?_
      rintro e w2 ⟨rfl, b2⟩
      have hown2 := ownF_bl hown b2
      have z2 := b2.size
      have k0 : w2.cell? ⟨g, 0, none⟩ = some (.int .i64 x) := by rw [b2.cell (p := ⟨g, 0, none⟩) hgs]; exact c0
      have k1 : w2.cell? ⟨g, 1, none⟩ = some (.int .i64 y) := by rw [b2.cell (p := ⟨g, 1, none⟩) hgs]; exact c1
      have kf : ∀ i, w2.frozen? ⟨g, i, none⟩ = false := by intro i; rw [b2.frozen (p := ⟨g, i, none⟩) hgs]; exact fg i
      have hB2 : Below w.heap.size w w2 := Below.trans hB (Below.mono b2 hws)
      clear hown c0 c1 fg hB b2
      go_upto_region 7 with fail
      generalize hw5 : World.setCell _ _ _ = w5
      have hown5 : w5.ownsRow w.heap.size 34 2 (.slice (some ⟨gv, 0, none⟩) m cap) m ((zs.take (2 * m)).map (Value.int .i64)) := by subst hw5; (repeat (with_reducible refine ownF_setg ?_ (by dsimp only; omega))); exact hown2
      have hB5 : Below w.heap.size w w5 := by subst hw5; exact (by repeat' (first | (with_reducible exact Below.refl _ _) | (with_reducible assumption) | (with_reducible refine below_drewN ?_ _) | (with_reducible refine Below.drew ?_) | (with_reducible refine Below.alloc ?_ ?_ _) | (with_reducible refine Below.setCell ?_ ?_ _) | (with_reducible refine Below.trans ?_ (Below.mono (by with_reducible assumption) ?_)) | go_size | (dsimp only; omega)))
      have hs5 : w2.heap.size ≤ w5.heap.size := by subst hw5; simp
      have e0 : w5.cell? ⟨g, 0, none⟩ = some (.int .i64 r) := by subst hw5; go_simp
      have e1 : w5.cell? ⟨g, 1, none⟩ = some (.int .i64 s) := by subst hw5; go_simp
      clear hw5 hown2 hB2 k0 k1 kf
      go_wp2_with (at_builtin; refine wpList_append_lies _ rfl _ _ _ rfl w.heap.size 34 i0 _ 2 16 under_Qs hi hz0 hz1 hz2 rfl (by omega) _ m ((zs.take (2 * m)).map (Value.int .i64)) rfl (hown5.alloc _) ⟨w5.heap.size, 0, none⟩ 1 1 [.int .i64 r, .int .i64 s] rfl rfl (World.news_of_block (cs := #[.int .i64 r, .int .i64 s]) (t := 34) (fr := (0, 0)) (heap_alloc_new w5 _)) (by simp [Value.oneCell']) (by omega) (by unfold maxLen; omega) (by omega) (by simp; omega) (w5.heap.size + 1) (by simp) ?_; intro gg cap3 w3 hown3 hgrow hat hlt; obtain ⟨c0, f0⟩ := grownF_far hgrow g (by omega) (by omega))
      have hgg3 : gg = gv ∨ gg = w5.heap.size + 1 := by
        rcases (show some gv = some gg ∨ gg = w5.heap.size + 1 from hat) with h | h
        · injection h with h; exact .inl h.symm
        · exact .inr h
      have ho3 : w3.ownsRow w.heap.size 34 2 (.slice (some ⟨gg, 0, none⟩) (m + 1) cap3) (m + 1) ((zs.take (2 * (m + 1))).map (Value.int .i64)) := by
        rw [HT1.out]; simpa using hown3
      have hB3 : Below w.heap.size w w3 := Below.grown (Below.alloc hB5 (by omega) _) hgrow (by simp; omega) (fun k hk => by have := (hown5.lt k hk).1; omega)
      have hs3 : w.heap.size ≤ w3.heap.size := by omega
      go_roundw
      case rel => exact ⟨r, s, m + 1, gg, cap3, w3.heap.size, l, rfl, rfl, by omega, by omega, by omega, by simp, HR2.out, t3, HT2.out, ho3.alloc _, by go_simp, by go_simp, (by intro i; go_simp), (by repeat' (first | (with_reducible exact Below.refl _ _) | (with_reducible assumption) | (with_reducible refine below_drewN ?_ _) | (with_reducible refine Below.drew ?_) | (with_reducible refine Below.alloc ?_ ?_ _) | (with_reducible refine Below.setCell ?_ ?_ _) | (with_reducible refine Below.trans ?_ (Below.mono (by with_reducible assumption) ?_)) | go_size | (dsimp only; omega)))⟩
      case measure => (simp [lenOf]; omega)
theorem FnExactFareyRow_w (n0 : Int) (w0 : (Lit.int .i64 n0).wf = true) (W : World) :
    Calls Try.prog 4 #[.int .i64 n0] W fun e w' => e = .returned (.bool true) ∧ Below W.heap.size W w' := by
  clear w0
  cases h : (decide (1 ≤ n0) && decide (n0 ≤ 20))
  · exact FareyRow_law n0 2 W [] (by simp) (Lib.hid (fun w => FareyRow_no _ w h)) (Lib.hid (fun w => sFareyRow_no _ w h))
  · have hb : 1 ≤ n0 ∧ n0 ≤ 20 := by simpa using h
    obtain ⟨L, hR, hl⟩ := row_ex n0 hb.2 400 0 1 (by omega) (.inl (by omega)) (by omega) hb.1 (by decide) (by omega)
    exact FareyRow_law n0 0 W (0 :: 1 :: L) (by simp; omega) (Lib.hid (fun w => FareyRow_yes _ _ w hb.1 hb.2 hR (by omega))) (Lib.hid (fun w => sFareyRow_yes _ _ w hb.1 hb.2 hR (by omega)))
end Go.Proofs.Ytgchbjlkbfdbdaa
