/- DistanceOf: the reference's count over the continued fraction. -/
import Derived.Test.YteeogfikncjjlaaDF
namespace Go.Proofs.Yteeogfikncjjlaa
open Go.RowKit
open Plain
set_option linter.unusedVariables false
set_option linter.unusedSimpArgs false
/-- how far a block of a equal steps has come: nn steps are left, the one that moves stands at mv, the other one at s -/
def Phase (a s e nn mv : Int) : Prop := (nn = a ∧ mv = s - 1 + e) ∨ (nn = a - 1 ∧ mv = s + e) ∨ (nn ≤ a - 2 ∧ mv = s + 1)
theorem phase_bd {a s e nn mv : Int} (h : Phase a s e nn mv) (he : e = 0 ∨ e = 1) (hn : 1 ≤ nn) (hs : 1 ≤ s) : 0 ≤ mv ∧ mv ≤ s + 1 := by
  rcases h with h | h | h <;> omega
theorem phase_end {a s e mv : Int} (ha : 1 ≤ a) (he : e = 0 ∨ e = 1) (h : Phase a s e 0 mv) : ∃ e', (e' = 0 ∨ e' = 1) ∧ s = mv - 1 + e' ∧ (e' = 1 ↔ (a = 1 ∧ e = 0)) := by
  rcases h with h | h | h
  · omega
  · rcases he with rfl | rfl
    · exact ⟨1, .inr rfl, by omega, by simp; omega⟩
    · exact ⟨0, .inl rfl, by omega, by simp⟩
  · exact ⟨0, .inl rfl, by omega, by simp; omega⟩
theorem phase_G {a s e mv e' : Int} {l : List Int} {n : Int} (ha : 1 ≤ a) (he : e = 0 ∨ e = 1) (h : Phase a s e 0 mv) (h1 : s = mv - 1 + e') (h2 : e' = 1 ↔ (a = 1 ∧ e = 0)) (hG : s + G (decide (e = 1)) (a :: l) = n) : mv + G (decide (e' = 1)) l = n := by
  rw [G] at hG
  by_cases hc : a = 1 ∧ e = 0
  · have he1 := h2.mpr hc
    rw [if_pos ⟨hc.1, by simp [hc.2]⟩] at hG
    rw [he1] at h1 ⊢
    rw [show decide ((1 : Int) = 1) = true from rfl]
    omega
  · have he1 : ¬ e' = 1 := fun hh => hc (h2.mp hh)
    rw [if_neg (by intro hh; apply hc; refine ⟨hh.1, ?_⟩; have := of_decide_eq_false hh.2; omega)] at hG
    rw [show decide (e' = 1) = false from decide_eq_false he1]
    rcases h with h | h | h
    · omega
    · have : e = 1 := by omega
      omega
    · omega
theorem phase_step {a s e nn mv own : Int} (he : e = 0 ∨ e = 1) (h : Phase a s e nn mv) (hn : 1 ≤ nn) (ho : own = 1 + min s mv) :
    (nn = 1 → 2 ≤ a → own = s + 1) ∧ (mv ≠ own → Phase a s e (nn - 1) own) ∧ (mv = own → 2 < nn → Phase a s e 1 own) ∧ (mv = own → nn ≤ 2 → Phase a s e (nn - 1) own) := by
  unfold Phase at *
  refine ⟨?_, ?_, ?_, ?_⟩ <;> omega
theorem cont_le : ∀ (l : List Int) (p q : Int), Cont p q l → 0 ≤ q → q < p → ∀ z ∈ l, z ≤ p
  | [], _, _, _, _, _, z, hz => by simp at hz
  | a :: l, p, q, h, hq, hp, z, hz => by
    rcases cont_inv h with ⟨-, h2⟩ | ⟨hq0, l', hl', h2⟩
    · cases h2
    · injection hl' with e1 e2
      subst e1 e2
      obtain ⟨r0, r1⟩ := flo_rest p q hq0
      rcases List.mem_cons.mp hz with rfl | hz
      · have h0 := flo_ge (p := p) (k := 0) hq0 (by omega)
        have := Int.mul_le_mul_of_nonneg_left (show 1 ≤ q by omega) h0
        omega
      · have := cont_le l q _ h2 r0 r1 z hz
        omega
theorem l03Far_zero (a b : Int) (w : World) (hb : b = 0) :
    Calls Try.prog 11 #[.agg #[.int .i64 a, .int .i64 b]] w fun e w' => e = .returned (.int .i64 0) ∧ Below w.heap.size w w' := by
  subst hb
  go_enter Try.func11, Try.ntmps11
  go_wp2
  go_returns
  exact ⟨rfl, (by repeat' (first | (with_reducible exact Below.refl _ _) | (with_reducible assumption) | (with_reducible refine below_drewN ?_ _) | (with_reducible refine Below.drew ?_) | (with_reducible refine Below.alloc ?_ ?_ _) | (with_reducible refine Below.setCell ?_ ?_ _) | (with_reducible refine Below.trans ?_ (Below.mono (by with_reducible assumption) ?_)) | go_size | (dsimp only; omega)))⟩
set_option maxRecDepth 100000 in
set_option maxHeartbeats 4000000 in
theorem l03Far_pos (a0 b0 z0 : Int) (l : List Int) (n : Nat) (w : World) (h : isF a0 b0 = true) (hb : 0 < b0) (hc : Cont a0 b0 (z0 :: l)) (hn : (n : Int) = 1 + G false l) (hl : l.length ≤ 1000000000) :
    Calls Try.prog 11 #[.agg #[.int .i64 a0, .int .i64 b0]] w fun e w' => e = .returned (.int .i64 n) ∧ Below w.heap.size w w' := by
  obtain ⟨-, ⟨-, hb1⟩, -, -⟩ := isF_iff.mp h
  have hok : okT l = true ∧ ∀ z ∈ l, z ≤ 1000000000 := by
    rcases cont_inv hc with ⟨h1, -⟩ | ⟨hq, l', hl', h2⟩
    · omega
    · injection hl' with _ e2
      subst e2
      obtain ⟨r0, r1⟩ := flo_rest a0 b0 hb
      exact ⟨cont_okT l b0 _ h2 r0 r1, fun z hz => by have := cont_le l b0 _ h2 r0 r1 z hz; omega⟩
  obtain ⟨zs, hzs⟩ : ∃ zs, z0 :: l = zs := ⟨_, rfl⟩
  have hd1 : zs.drop 1 = l := by rw [← hzs]; rfl
  have HC := Lib.hid (hzs ▸ hc)
  have hG : (1 : Int) + G (decide ((0 : Int) = 1)) (zs.drop 1) = n := by rw [hd1, hn]; rfl
  have hO : okT (zs.drop 1) = true := by rw [hd1]; exact hok.1
  have hZ : ∀ z ∈ zs.drop 1, z ≤ 1000000000 := by rw [hd1]; exact hok.2
  have HG0 := Lib.hid hG
  have HO0 := Lib.hid hO
  have HZ0 := Lib.hid hZ
  have HF := Lib.hid h
  obtain ⟨N, hN⟩ : ∃ N, zs.length = N := ⟨_, rfl⟩
  have hN1 : 1 ≤ N ∧ N ≤ 1000000001 := by rw [← hN, ← hzs]; simp only [List.length_cons]; omega
  have HL := Lib.hid hN
  have hbz : (b0 == 0) = false := by simp; omega
  clear hc hn hl hok hd1 hzs hG hO hZ h hN
  go_enter Try.func11, Try.ntmps11
  go_wp2_with fail
  refine (l03Continued_c a0 b0 _ zs HF.out HC.out (by rw [HL.out]; omega)).mono ?_
  rintro e w1 ⟨v, rfl, hOw, b1⟩
  have hbw := b1
  rcases hOw with ⟨e0, -⟩ | ⟨g, cc, rfl, hg1, hg2, hrow, -⟩
  · exfalso; have := HL.out; rw [e0] at this; simp at this; omega
  rw [HL.out]
  have zzb1 := b1.size; (try simp at zzb1); have zb1_0 : w.heap.size < w1.heap.size := (by omega); have kcb1_0 : ∀ o, w1.cell? ⟨w.heap.size, o, none⟩ = _ := fun o => b1.cell (p := ⟨w.heap.size, o, none⟩) (by go_size); have kfb1_0 : ∀ o, w1.frozen? ⟨w.heap.size, o, none⟩ = _ := fun o => b1.frozen (p := ⟨w.heap.size, o, none⟩) (by go_size); clear zzb1
  have HR : Hid (∀ k, k < N → w1.cell? ⟨g, k, none⟩ = some (.int .i64 (zs.getD k 0))) := Lib.hid (fun k hk => by have := hrow k (by rw [HL.out]; exact hk); simpa using this)
  clear hrow
  go_wp2
  go_loopw [4, 5, 6] (fun vx vy vi wr => ∃ (x y s e : Int) (k : Nat), vx = .int .i64 x ∧ vy = .int .i64 y ∧ vi = .int .i64 k ∧ 1 ≤ k ∧ k ≤ N ∧ (k = N → k = 1) ∧ (e = 0 ∨ e = 1) ∧ 1 ≤ s ∧ s ≤ k ∧ ((k % 2 = 1 ∧ x = s ∧ y = s - 1 + e) ∨ (k % 2 = 0 ∧ y = s ∧ x = s - 1 + e)) ∧ Hid (s + G (decide (e = 1)) (zs.drop k) = n) ∧ Hid (okT (zs.drop k) = true) ∧ Below w1.heap.size w1 wr) (fun vx vy vi wr => N - (intOf vi).toNat)
  case atStart => exact ⟨1, 0, 1, 0, 1, rfl, rfl, rfl, by omega, by omega, by omega, .inl rfl, by omega, by omega, by omega, HG0, HO0, (by repeat' (first | (with_reducible exact Below.refl _ _) | (with_reducible assumption) | (with_reducible refine below_drewN ?_ _) | (with_reducible refine Below.drew ?_) | (with_reducible refine Below.alloc ?_ ?_ _) | (with_reducible refine Below.setCell ?_ ?_ _) | (with_reducible refine Below.trans ?_ (Below.mono (by with_reducible assumption) ?_)) | go_size | (dsimp only; omega)))⟩
  case round =>
    obtain ⟨x, y, s, e, k, rfl, rfl, rfl, hk1, hkN, hkk, hee, hs1, hsk, hxy, HGk, HOk, hB⟩ := hrel
    by_cases hlt : k < N
    · have hlt' : (k : Int) < (N : Int) := by omega
      have hdr : zs.drop k = zs.getD k 0 :: zs.drop (k + 1) := by
        have : k < zs.length := by rw [HL.out]; exact hlt
        rw [List.drop_eq_getElem_cons this]; simp [List.getD, List.getElem?_eq_getElem this]
      have q1 : wr.cell? ⟨g, k, none⟩ = some (.int .i64 (zs.getD k 0)) := by
        rw [hB.cell (p := ⟨g, k, none⟩) hg2]; exact HR.out k hlt
      have hgs := HGk.out
      have hos := HOk.out
      rw [hdr] at hgs hos
      have hab : zs.getD k 0 ≤ 1000000000 := by
        refine HZ0.out _ ?_
        have h1 : zs.getD k 0 ∈ zs.drop k := by rw [hdr]; exact List.mem_cons_self
        have h2 : zs.drop k = (zs.drop 1).drop (k - 1) := by rw [List.drop_drop]; congr 1; omega
        rw [h2] at h1
        exact List.mem_of_mem_drop h1
      have ha := okT_pos hos
      generalize zs.getD k 0 = a at *
      have hlast2 : k + 1 = N → 2 ≤ a ∧ s + 1 = n := by
        intro hk
        have h1 : zs.drop (k + 1) = [] := by rw [List.drop_eq_nil_iff, HL.out]; omega
        rw [h1] at hgs hos
        have h2 : 2 ≤ a := by simp [okT] at hos; omega
        rw [G_two _ _ h2] at hgs
        simp only [G] at hgs
        exact ⟨h2, by omega⟩
      have HGs := Lib.hid hgs
      have HOs := Lib.hid hos
      clear hgs hos HGk HOk hdr
      rcases (show k % 2 = 1 ∨ k % 2 = 0 by omega) with hp | hp
      · have hp1 : k % 2 = 1 := by omega
        have hp2 : ((k : Int) % 2 == 1) = true := by rw [beq_iff_eq]; omega
        have hp3 : ((k : Int).tmod 2 == 1) = true := by rw [Int.tmod_eq_emod_of_nonneg (by omega)]; exact hp2
        have hxx : x = s ∧ y = s - 1 + e := by rcases hxy with ⟨h1, h2⟩ | ⟨h1, h2⟩ <;> omega
        obtain ⟨hx1, hy1⟩ := hxx
        clear hxy
        go_wp2
        go_loopw [4, 5, 7] (fun vx vy vn wq => ∃ (mv nn : Int), vx = .int .i64 s ∧ vy = .int .i64 mv ∧ vn = .int .i64 nn ∧ Phase a s e nn mv ∧ 0 ≤ nn ∧ nn ≤ a ∧ (k + 1 = N → 1 ≤ nn) ∧ Below w1.heap.size w1 wq) (fun vx vy vn wq => (intOf vn).toNat)
        case atStart => exact ⟨s - 1 + e, a, by rw [hx1], by rw [hy1], rfl, .inl ⟨rfl, rfl⟩, by omega, by omega, by omega, by first | assumption | exact (by repeat' (first | (with_reducible exact Below.refl _ _) | (with_reducible assumption) | (with_reducible refine below_drewN ?_ _) | (with_reducible refine Below.drew ?_) | (with_reducible refine Below.alloc ?_ ?_ _) | (with_reducible refine Below.setCell ?_ ?_ _) | (with_reducible refine Below.trans ?_ (Below.mono (by with_reducible assumption) ?_)) | go_size | (dsimp only; omega)))⟩
        case round =>
          obtain ⟨mv, nn, rfl, rfl, rfl, hph, hnn, hna, hlast, hBq⟩ := hrel
          by_cases hz : nn = 0
          · subst hz
            have hkl : k + 1 < N := by omega
            obtain ⟨e', he', hmv1, hmv2⟩ := phase_end ha hee hph
            go_wp2
            go_roundw
            case rel => exact ⟨_, _, mv, e', k + 1, rfl, rfl, by go_num, by omega, by omega, by omega, he', by omega, by omega, by omega, Lib.hid (phase_G ha hee hph hmv1 hmv2 HGs.out), Lib.hid (okT_tail HOs.out), hBq⟩
            case measure => simp [intOf]; omega
          · have hn1 : 1 ≤ nn := by omega
            have hgt : decide (0 < nn) = true := decide_eq_true hn1
            have hmb := phase_bd hph hee hn1 hs1
            obtain ⟨own, hown⟩ : ∃ own, 1 + min s mv = own := ⟨_, rfl⟩
            have hob : 1 ≤ own ∧ own ≤ s + 1 := by omega
            by_cases hL : k + 1 = N
            · have hL1 : ((k : Int) == (N : Int) - 1) = true := by rw [beq_iff_eq]; omega
              go_wp2
              all_goals first | (refine ⟨⟨_, _, rfl, rfl, rfl, ?_, ?_, ?_, ?_, ?_⟩, ?_⟩) | (go_returns; refine ⟨ret_int ?_, (by repeat' (first | (with_reducible exact Below.refl _ _) | (with_reducible assumption) | (with_reducible refine below_drewN ?_ _) | (with_reducible refine Below.drew ?_) | (with_reducible refine Below.alloc ?_ ?_ _) | (with_reducible refine Below.setCell ?_ ?_ _) | (with_reducible refine Below.trans ?_ (Below.mono (by with_reducible assumption) ?_)) | go_size | (dsimp only; omega)))⟩)
              all_goals (simp only [beq_iff_eq, beq_eq_false_iff_ne, ne_eq, intOf] at *)
              all_goals (unfold Phase at *)
              all_goals first | omega | assumption
            · have hL1 : ((k : Int) == (N : Int) - 1) = false := by rw [beq_eq_false_iff_ne]; omega
              go_wp2
              all_goals first | (refine ⟨⟨_, _, rfl, rfl, rfl, ?_, ?_, ?_, ?_, ?_⟩, ?_⟩) | (go_returns; refine ⟨ret_int ?_, (by repeat' (first | (with_reducible exact Below.refl _ _) | (with_reducible assumption) | (with_reducible refine below_drewN ?_ _) | (with_reducible refine Below.drew ?_) | (with_reducible refine Below.alloc ?_ ?_ _) | (with_reducible refine Below.setCell ?_ ?_ _) | (with_reducible refine Below.trans ?_ (Below.mono (by with_reducible assumption) ?_)) | go_size | (dsimp only; omega)))⟩)
              all_goals (simp only [beq_iff_eq, beq_eq_false_iff_ne, ne_eq, intOf] at *)
              all_goals (unfold Phase at *)
              all_goals first | omega | assumption
      · have hp1 : k % 2 = 0 := by omega
        have hp2 : ((k : Int) % 2 == 1) = false := by rw [beq_eq_false_iff_ne]; omega
        have hp3 : ((k : Int).tmod 2 == 1) = false := by rw [Int.tmod_eq_emod_of_nonneg (by omega)]; exact hp2
        have hxx : x = s - 1 + e ∧ y = s := by rcases hxy with ⟨h1, h2⟩ | ⟨h1, h2⟩ <;> omega
        obtain ⟨hx1, hy1⟩ := hxx
        clear hxy
        go_wp2
        go_loopw [4, 5, 7] (fun vx vy vn wq => ∃ (mv nn : Int), vx = .int .i64 mv ∧ vy = .int .i64 s ∧ vn = .int .i64 nn ∧ Phase a s e nn mv ∧ 0 ≤ nn ∧ nn ≤ a ∧ (k + 1 = N → 1 ≤ nn) ∧ Below w1.heap.size w1 wq) (fun vx vy vn wq => (intOf vn).toNat)
        case atStart => exact ⟨s - 1 + e, a, by rw [hx1], by rw [hy1], rfl, .inl ⟨rfl, rfl⟩, by omega, by omega, by omega, by first | assumption | exact (by repeat' (first | (with_reducible exact Below.refl _ _) | (with_reducible assumption) | (with_reducible refine below_drewN ?_ _) | (with_reducible refine Below.drew ?_) | (with_reducible refine Below.alloc ?_ ?_ _) | (with_reducible refine Below.setCell ?_ ?_ _) | (with_reducible refine Below.trans ?_ (Below.mono (by with_reducible assumption) ?_)) | go_size | (dsimp only; omega)))⟩
        case round =>
          obtain ⟨mv, nn, rfl, rfl, rfl, hph, hnn, hna, hlast, hBq⟩ := hrel
          by_cases hz : nn = 0
          · subst hz
            have hkl : k + 1 < N := by omega
            obtain ⟨e', he', hmv1, hmv2⟩ := phase_end ha hee hph
            go_wp2
            go_roundw
            case rel => exact ⟨_, _, mv, e', k + 1, rfl, rfl, by go_num, by omega, by omega, by omega, he', by omega, by omega, by omega, Lib.hid (phase_G ha hee hph hmv1 hmv2 HGs.out), Lib.hid (okT_tail HOs.out), hBq⟩
            case measure => simp [intOf]; omega
          · have hn1 : 1 ≤ nn := by omega
            have hgt : decide (0 < nn) = true := decide_eq_true hn1
            have hmb := phase_bd hph hee hn1 hs1
            obtain ⟨own, hown⟩ : ∃ own, 1 + min mv s = own := ⟨_, rfl⟩
            have hob : 1 ≤ own ∧ own ≤ s + 1 := by omega
            by_cases hL : k + 1 = N
            · have hL1 : ((k : Int) == (N : Int) - 1) = true := by rw [beq_iff_eq]; omega
              go_wp2
              all_goals first | (refine ⟨⟨_, _, rfl, rfl, rfl, ?_, ?_, ?_, ?_, ?_⟩, ?_⟩) | (go_returns; refine ⟨ret_int ?_, (by repeat' (first | (with_reducible exact Below.refl _ _) | (with_reducible assumption) | (with_reducible refine below_drewN ?_ _) | (with_reducible refine Below.drew ?_) | (with_reducible refine Below.alloc ?_ ?_ _) | (with_reducible refine Below.setCell ?_ ?_ _) | (with_reducible refine Below.trans ?_ (Below.mono (by with_reducible assumption) ?_)) | go_size | (dsimp only; omega)))⟩)
              all_goals (simp only [beq_iff_eq, beq_eq_false_iff_ne, ne_eq, intOf] at *)
              all_goals (unfold Phase at *)
              all_goals first | omega | assumption
            · have hL1 : ((k : Int) == (N : Int) - 1) = false := by rw [beq_eq_false_iff_ne]; omega
              go_wp2
              all_goals first | (refine ⟨⟨_, _, rfl, rfl, rfl, ?_, ?_, ?_, ?_, ?_⟩, ?_⟩) | (go_returns; refine ⟨ret_int ?_, (by repeat' (first | (with_reducible exact Below.refl _ _) | (with_reducible assumption) | (with_reducible refine below_drewN ?_ _) | (with_reducible refine Below.drew ?_) | (with_reducible refine Below.alloc ?_ ?_ _) | (with_reducible refine Below.setCell ?_ ?_ _) | (with_reducible refine Below.trans ?_ (Below.mono (by with_reducible assumption) ?_)) | go_size | (dsimp only; omega)))⟩)
              all_goals (simp only [beq_iff_eq, beq_eq_false_iff_ne, ne_eq, intOf] at *)
              all_goals (unfold Phase at *)
              all_goals first | omega | assumption
    · have hkN' : k = N := by omega
      have h1 := hkk hkN'
      have hd0 : zs.drop k = [] := by rw [List.drop_eq_nil_iff, HL.out]; omega
      have hgs := HGk.out
      rw [hd0] at hgs
      simp only [G] at hgs
      have hx1 : x = n := by omega
      subst hx1
      clear HGk HOk hgs hd0
      go_wp2
      go_returns
      exact ⟨rfl, (by repeat' (first | (with_reducible exact Below.refl _ _) | (with_reducible assumption) | (with_reducible refine below_drewN ?_ _) | (with_reducible refine Below.drew ?_) | (with_reducible refine Below.alloc ?_ ?_ _) | (with_reducible refine Below.setCell ?_ ?_ _) | (with_reducible refine Below.trans ?_ (Below.mono (by with_reducible assumption) ?_)) | go_size | (dsimp only; omega)))⟩
end Go.Proofs.Yteeogfikncjjlaa
