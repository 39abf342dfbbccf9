/- The convergents that pass the limit: the reference's walk. -/
import Derived.Test.YtmopjfjmmdnapaaCW
import Derived.Deep.DeepCutAuto
import Derived.StillTailTactics
namespace Go.Proofs.Ytmopjfjmmdnapaa
open Go.RowKit
open Plain (flo Cont)
set_option linter.unusedVariables false
set_option linter.unusedSimpArgs false
set_option maxRecDepth 100000 in
set_option maxHeartbeats 4000000 in
theorem l03Convergents_no (b o n c : Nat) (zs : List Int) (w : World) (hb : b < w.heap.size) (HR : Hid (∀ k, k < n → w.cell? ⟨b, o + k, none⟩ = some (.int .i64 (zs.getD k 0)))) (HL : Hid (zs.length = n)) (hn : n ≤ 1000000001) (HE : Hid (∀ k, k < n → ent (zs.getD k 0) = true)) (HC : Hid (convs 1 0 0 1 zs = none)) :
    Calls Try.prog 53 #[.slice (some ⟨b, o, none⟩) n c] w fun e w' => ∃ v, e = .returned (.tuple #[v, .bool false]) ∧ Below w.heap.size w w' := by
  obtain ⟨i0, hi, hz0, hz1, hz2⟩ := info_parts info_Q
  have hown0 := (ownQ_zero w).alloc (Obj.cells #[.int .i64 1, .int .i64 0, .int .i64 0, .int .i64 1] 26)
  go_enter Try.func53, Try.ntmps53
  go_wp2
  go_loopw [4, 6] (fun v i wr => ∃ (x y u t : Int) (k gv cap : Nat) (ys : List Value), v = .slice (some ⟨gv, 0, none⟩) k cap ∧ i = .int .i64 k ∧ k ≤ n ∧ gv ≠ w.heap.size + 1 ∧ w.heap.size ≤ gv ∧ ent x = true ∧ ent y = true ∧ ent u = true ∧ ent t = true ∧ Hid (convs x y u t (zs.drop k) = none) ∧
      wr.ownsRow w.heap.size 32 2 (.slice (some ⟨gv, 0, none⟩) k cap) k ys ∧
      wr.cell? ⟨w.heap.size + 1, 0, none⟩ = some (.int .i64 x) ∧ wr.cell? ⟨w.heap.size + 1, 1, none⟩ = some (.int .i64 y) ∧ wr.cell? ⟨w.heap.size + 1, 2, none⟩ = some (.int .i64 u) ∧ wr.cell? ⟨w.heap.size + 1, 3, none⟩ = some (.int .i64 t) ∧ (∀ i, wr.frozen? ⟨w.heap.size + 1, i, none⟩ = false) ∧ Below w.heap.size w wr ∧ w.heap.size + 1 < wr.heap.size) (fun v i wr => n - (intOf i).toNat)
  case atStart => exact ⟨1, 0, 0, 1, 0, w.heap.size, 0, [], rfl, rfl, by omega, by omega, by omega, by decide, by decide, by decide, by decide, HC.out, by simpa using hown0, by go_cell, by go_cell, by go_cell, by go_cell, (by intro i; first | (simp; done) | (go_simp; done)), (by repeat' (first | (with_reducible exact Below.refl _ _) | (with_reducible assumption) | (with_reducible refine below_drewN ?_ _) | (with_reducible refine Below.drew ?_) | (with_reducible refine Below.alloc ?_ ?_ _) | (with_reducible refine Below.setCell ?_ ?_ _) | (with_reducible refine Below.trans ?_ (Below.mono (by with_reducible assumption) ?_)) | go_size | (dsimp only; omega))), by simp⟩
  case round =>
    obtain ⟨x, y, u, t, k, gv, cap, ys, rfl, rfl, hk, hg1, hg0, hx, hy, hu, ht, HCC, hown, c0, c1, d0, d1, f0, hB, hws⟩ := hrel
    clear hown0
    by_cases hlt : k < n
    · have hlt' : (k : Int) < (n : Int) := by omega
      have hdr : zs.drop k = zs.getD k 0 :: zs.drop (k + 1) := by
        have : k < zs.length := by rw [HL.out]; exact hlt
        rw [List.drop_eq_getElem_cons this]; simp [List.getD, List.getElem?_eq_getElem this]
      have q1 : wr.cell? ⟨b, o + k, none⟩ = some (.int .i64 (zs.getD k 0)) := by
        rw [hB.cell (p := ⟨b, o + k, none⟩) hb]; exact HR.out k hlt
      have hz := HE.out k hlt
      have hcs := HCC.out
      rw [hdr] at hcs
      have hcn := convs_no hcs
      generalize zs.getD k 0 = z at *
      have HCN := Lib.hid hcn
      clear hcn hcs HCC hdr
      obtain ⟨p0, p1⟩ := ent_mul hz hx
      obtain ⟨q0, q1'⟩ := ent_mul hz hu
      have hy' := ent_iff.mp hy
      have ht' := ent_iff.mp ht
      go_wp2
      go_region
      generalize hw5 : World.drew _ = w5
      have hown5 : w5.ownsRow w.heap.size 32 2 (.slice (some ⟨gv, 0, none⟩) k cap) k ys := by subst hw5; exact own_drew hown
      have hB5 : Below w.heap.size w w5 := by subst hw5; exact (by repeat' (first | (with_reducible exact Below.refl _ _) | (with_reducible assumption) | (with_reducible refine below_drewN ?_ _) | (with_reducible refine Below.drew ?_) | (with_reducible refine Below.alloc ?_ ?_ _) | (with_reducible refine Below.setCell ?_ ?_ _) | (with_reducible refine Below.trans ?_ (Below.mono (by with_reducible assumption) ?_)) | go_size | (dsimp only; omega)))
      have hs5 : wr.heap.size ≤ w5.heap.size := by subst hw5; simp
      have e0 : w5.cell? ⟨w.heap.size + 1, 0, none⟩ = some (.int .i64 x) := by subst hw5; go_simp
      have e1 : w5.cell? ⟨w.heap.size + 1, 1, none⟩ = some (.int .i64 y) := by subst hw5; go_simp
      have e2 : w5.cell? ⟨w.heap.size + 1, 2, none⟩ = some (.int .i64 u) := by subst hw5; go_simp
      have e3 : w5.cell? ⟨w.heap.size + 1, 3, none⟩ = some (.int .i64 t) := by subst hw5; go_simp
      have ef0 : ∀ i, w5.frozen? ⟨w.heap.size + 1, i, none⟩ = false := by subst hw5; intro i; go_simp
      clear hw5 hown hB c0 c1 d0 d1 f0 q1
      have hgs := (hown5.lt gv rfl).2
      generalize z * x + y = pp at *
      generalize z * u + t = qq at *
      cases hE1 : ent pp
      · have HE1 := Lib.hid hE1
        clear hE1
        go_wp2_with fail
        refine (l01Entry_c _ _).mono ?_
        rintro e w' ⟨rfl, rfl⟩
        rw [HE1.out]
        go_wp2
        exact bodyPost_ret (v := .tuple #[.slice none 0 0, .bool false]) (by simp only [results, Try.results53]; go_simp) rfl ⟨_, rfl, (by repeat' (first | (with_reducible exact Below.refl _ _) | (with_reducible assumption) | (with_reducible refine below_drewN ?_ _) | (with_reducible refine Below.drew ?_) | (with_reducible refine Below.alloc ?_ ?_ _) | (with_reducible refine Below.setCell ?_ ?_ _) | (with_reducible refine Below.trans ?_ (Below.mono (by with_reducible assumption) ?_)) | go_size | (dsimp only; omega)))⟩
      · cases hE2 : ent qq
        · have HE1 := Lib.hid hE1
          have HE2 := Lib.hid hE2
          clear hE1 hE2
          go_wp2_with fail
          refine (l01Entry_c _ _).mono ?_
          rintro e w' ⟨rfl, rfl⟩
          rw [HE1.out]
          go_wp2_with fail
          refine (l01Entry_c _ _).mono ?_
          rintro e w' ⟨rfl, rfl⟩
          rw [HE2.out]
          go_wp2
          exact bodyPost_ret (v := .tuple #[.slice none 0 0, .bool false]) (by simp only [results, Try.results53]; go_simp) rfl ⟨_, rfl, (by repeat' (first | (with_reducible exact Below.refl _ _) | (with_reducible assumption) | (with_reducible refine below_drewN ?_ _) | (with_reducible refine Below.drew ?_) | (with_reducible refine Below.alloc ?_ ?_ _) | (with_reducible refine Below.setCell ?_ ?_ _) | (with_reducible refine Below.trans ?_ (Below.mono (by with_reducible assumption) ?_)) | go_size | (dsimp only; omega)))⟩
        · have HCN2 : Hid (convs pp x qq u (zs.drop (k + 1)) = none) := by
            rcases HCN.out with h | ⟨-, -, h⟩
            · rw [hE1, hE2] at h; exact absurd h (by simp)
            · exact Lib.hid h
          have g1 := hE1
          have g2 := hE2
          clear hE1 hE2 HCN
          go_wp2_with fail
          refine (l01Entry_c _ _).mono ?_
          rintro e w' ⟨rfl, rfl⟩
          rw [g1]
          go_wp2_with fail
          refine (l01Entry_c _ _).mono ?_
          rintro e w' ⟨rfl, rfl⟩
          rw [g2]
          go_upto_region 9 with fail
          generalize hw6 : World.setCell _ _ _ = w6
          have hown6 : w6.ownsRow w.heap.size 32 2 (.slice (some ⟨gv, 0, none⟩) k cap) k ys := by subst hw6; (repeat (with_reducible refine ownF_setg ?_ (by dsimp only; omega))); exact hown5
          have hB6 : Below w.heap.size w w6 := by subst hw6; exact (by repeat' (first | (with_reducible exact Below.refl _ _) | (with_reducible assumption) | (with_reducible refine below_drewN ?_ _) | (with_reducible refine Below.drew ?_) | (with_reducible refine Below.alloc ?_ ?_ _) | (with_reducible refine Below.setCell ?_ ?_ _) | (with_reducible refine Below.trans ?_ (Below.mono (by with_reducible assumption) ?_)) | go_size | (dsimp only; omega)))
          have hs6 : w5.heap.size ≤ w6.heap.size := by subst hw6; simp
          have hgs6 : gv < w6.heap.size := by omega
          have m0 : w6.cell? ⟨w.heap.size + 1, 0, none⟩ = some (.int .i64 pp) := by subst hw6; go_simp
          have m1 : w6.cell? ⟨w.heap.size + 1, 1, none⟩ = some (.int .i64 x) := by subst hw6; go_simp
          have m2 : w6.cell? ⟨w.heap.size + 1, 2, none⟩ = some (.int .i64 qq) := by subst hw6; go_simp
          have m3 : w6.cell? ⟨w.heap.size + 1, 3, none⟩ = some (.int .i64 u) := by subst hw6; go_simp
          have mf : ∀ i, w6.frozen? ⟨w.heap.size + 1, i, none⟩ = false := by subst hw6; intro i; go_simp
          clear hw6 hown5 hB5 e0 e1 e2 e3 ef0
          go_wp2_with (at_builtin; refine wpList_append_lies _ rfl _ _ _ rfl w.heap.size 32 i0 _ 2 16 under_Qs hi hz0 hz1 hz2 rfl (by omega) _ k ys rfl (hown6.alloc _) ⟨w6.heap.size, 0, none⟩ 1 1 [.int .i64 pp, .int .i64 qq] rfl rfl (World.news_of_block (cs := #[.int .i64 pp, .int .i64 qq]) (t := 32) (fr := (0, 0)) (heap_alloc_new w6 _)) (by simp [Value.oneCell']) (by omega) (by unfold maxLen; omega) (by omega) (by simp; omega) (w6.heap.size + 1) (by simp) ?_; intro gg cap3 w3 hown3 hgrow hat hlt; obtain ⟨a0, b0⟩ := grownF_far hgrow (w.heap.size + 1) (by omega) (by omega))
          have hgg3 : gg = gv ∨ gg = w6.heap.size + 1 := by
            rcases (show some gv = some gg ∨ gg = w6.heap.size + 1 from hat) with h | h
            · injection h with h; exact .inl h.symm
            · exact .inr h
          have ho3 : w3.ownsRow w.heap.size 32 2 (.slice (some ⟨gg, 0, none⟩) (k + 1) cap3) (k + 1) (ys ++ [.int .i64 pp, .int .i64 qq]) := by
            exact hown3
          have hB3 : Below w.heap.size w w3 := Below.grown (Below.alloc hB6 (by omega) _) hgrow (by simp; omega) (fun k hk => by have := (hown6.lt k hk).1; omega)
          have hz3 := hgrow.size
          simp at hz3
          go_roundw
          case rel => exact ⟨pp, x, qq, u, k + 1, gg, cap3, _, rfl, by go_num, by omega, by omega, by omega, g1, hx, g2, hu, HCN2.out, ho3, by rw [a0]; exact m0, by rw [a0]; exact m1, by rw [a0]; exact m2, by rw [a0]; exact m3, (by intro i; rw [b0]; exact mf i), hB3, by omega⟩
          case measure => (simp [intOf]; omega)
    · obtain rfl : k = n := by omega
      have h0 := HCC.out
      rw [List.drop_of_length_le (by rw [HL.out]; exact Nat.le_refl _)] at h0
      exact absurd h0 (by simp [convs])
end Go.Proofs.Ytmopjfjmmdnapaa
