/- PositiveWord: the reference's walk; the law. -/
import Derived.Test.YtgpnfjpnbchglaaRA
namespace Go.Proofs.Ytgpnfjpnbchglaa
open Go.RowKit
open Plain (oft Runs)
set_option linter.unusedVariables false
set_option linter.unusedSimpArgs false
theorem word_one {m j : Nat} {s : ByteArray} {b : UInt8} {l r : List UInt8} (hj : j < m) (h : s.data.toList ++ (List.replicate (m - j) b ++ l) = r) :
    (s ++ ⟨#[b]⟩ : ByteArray).data.toList ++ (List.replicate (m - (j + 1)) b ++ l) = r := by
  rw [← h, show m - j = (m - (j + 1)) + 1 by omega, List.replicate_succ]
  simp [ByteArray.data_append]
theorem one_size {s : ByteArray} {b : UInt8} : (s ++ ⟨#[b]⟩ : ByteArray).size = s.size + 1 := by
  rw [ByteArray.size_append]; rfl
theorem sPositiveWord_no (p q r s c : Int) (w : World) (hc : posC p q r s = c) (hz : c ≠ 0) :
    Calls Try.prog 19 #[.agg #[.int .i64 p, .int .i64 q, .int .i64 r, .int .i64 s]] w fun e w' => e = .returned (.tuple #[.string ⟨#[]⟩, .int .i64 c]) ∧ Below w.heap.size w w' := by
  have HC := Lib.hid hc
  have hz' : (c == 0) = false := by simpa using hz
  have hz2 : (c != 0) = true := by simpa using hz
  clear hc
  go_enter Try.func19, Try.ntmps19
  go_wp2_with fail
  refine (l02Given_c _ _ _ _ _).mono ?_
  rintro e w1 ⟨rfl, b1⟩
  have zzb1 := b1.size; (try simp at zzb1); have zb1_0 : w.heap.size < w1.heap.size := (by omega); have kcb1_0 : ∀ o, w1.cell? ⟨w.heap.size, o, none⟩ = _ := fun o => b1.cell (p := ⟨w.heap.size, o, none⟩) (by go_size); have kfb1_0 : ∀ o, w1.frozen? ⟨w.heap.size, o, none⟩ = _ := fun o => b1.frozen (p := ⟨w.heap.size, o, none⟩) (by go_size); clear zzb1
  rw [HC.out]
  go_wp2
  go_returns
  exact ⟨rfl, (by repeat' (first | (with_reducible exact Below.refl _ _) | (with_reducible assumption) | (with_reducible refine below_drewN ?_ _) | (with_reducible refine Below.drew ?_) | (with_reducible refine Below.alloc ?_ ?_ _) | (with_reducible refine Below.setCell ?_ ?_ _) | (with_reducible refine Below.trans ?_ (Below.mono (by with_reducible assumption) ?_)) | go_size | (dsimp only; omega)))⟩
set_option maxRecDepth 100000 in
set_option maxHeartbeats 4000000 in
theorem sPositiveWord_yes (p q r s : Int) (zs : List Int) (S : ByteArray) (c : Int) (w : World) (h : isM p q r s = true) (hp : posM p q r s = true) (hr : Runs true p q r s zs) (hl : zs.length ≤ 4000000001) (hnn : ∀ z ∈ zs, 0 ≤ z) (htot : tot zs ≤ 4000000000) (hS : pwS zs = S) (hC : pwC zs = c) :
    Calls Try.prog 19 #[.agg #[.int .i64 p, .int .i64 q, .int .i64 r, .int .i64 s]] w fun e w' => e = .returned (.tuple #[.string S, .int .i64 c]) ∧ Below w.heap.size w w' := by
  have hc : posC p q r s = 0 := by simp [posC, h, hp]
  have HC := Lib.hid hc
  have HR := Lib.hid hr
  have H := Lib.hid h
  have HP := Lib.hid hp
  have HNN := Lib.hid hnn
  have HS := Lib.hid hS
  have HCC := Lib.hid hC
  have HTOT := Lib.hid htot
  clear hc hr h hp hnn hS hC htot
  go_enter Try.func19, Try.ntmps19
  go_wp2_with fail
  refine (l02Given_c _ _ _ _ _).mono ?_
  rintro e w1 ⟨rfl, b1⟩
  have zzb1 := b1.size; (try simp at zzb1); have zb1_0 : w.heap.size < w1.heap.size := (by omega); have kcb1_0 : ∀ o, w1.cell? ⟨w.heap.size, o, none⟩ = _ := fun o => b1.cell (p := ⟨w.heap.size, o, none⟩) (by go_size); have kfb1_0 : ∀ o, w1.frozen? ⟨w.heap.size, o, none⟩ = _ := fun o => b1.frozen (p := ⟨w.heap.size, o, none⟩) (by go_size); clear zzb1
  rw [HC.out]
  go_wp2_with fail
  refine (l02Runs_c p q r s _ zs H.out HP.out HR.out hl).mono ?_
  rintro e w2 ⟨v, rfl, ho, b2⟩
  have hB2 : Below w.heap.size w w2 := (by repeat' (first | (with_reducible exact Below.refl _ _) | (with_reducible assumption) | (with_reducible refine below_drewN ?_ _) | (with_reducible refine Below.drew ?_) | (with_reducible refine Below.alloc ?_ ?_ _) | (with_reducible refine Below.setCell ?_ ?_ _) | (with_reducible refine Below.trans ?_ (Below.mono (by with_reducible assumption) ?_)) | go_size | (dsimp only; omega)))
  rcases ho with ⟨rfl, pp, cc, rfl⟩ | ⟨g, cg, rfl, hg0, hg1, hg2, -⟩
  · obtain rfl : S = ⟨#[]⟩ := by rw [← HS.out]; rfl
    obtain rfl : c = 0 := by rw [← HCC.out]; rfl
    go_wp2
    refine wp_loop_rounds 1 ?_
    rw [rounds_succ]
    go_wp2
    refine wp_loop_rounds 1 ?_
    rw [rounds_succ]
    go_wp2
    go_returns
    exact ⟨rfl, hB2⟩
  · have HG := Lib.hid hg2
    generalize hn : zs.length = n at *
    have HN := Lib.hid hn
    clear hg2 hn
    go_wp2
    go_loopw [6, 7] (fun sv i wr => ∃ (k : Nat) (x : Int), sv = .int .i64 x ∧ i = .int .i64 k ∧ k ≤ n ∧ Hid (x + tot (zs.drop k) = tot zs) ∧ 0 ≤ x ∧ x ≤ 4000000000 ∧ w2 = wr) (fun sv i wr => n - (intOf i).toNat)
    case atStart => exact ⟨0, 0, rfl, rfl, by omega, Lib.hid (by simp), by omega, by omega, rfl⟩
    case round =>
      obtain ⟨k, x, rfl, rfl, hk, HT, hx0, hx1, rfl⟩ := hrel
      by_cases hlt : k < n
      · have hkn : (k : Int) < (n : Int) := by omega
        have hlen : k < zs.length := by rw [HN.out]; exact hlt
        have q1 : w2.cell? ⟨g, k, none⟩ = some (.int .i64 (zs.getD k 0)) := by
          have := HG.out k hlen; simpa only [Nat.zero_add] using this
        have hdr : zs.drop k = zs.getD k 0 :: zs.drop (k + 1) := by
          rw [List.drop_eq_getElem_cons hlen]; simp [List.getD, List.getElem?_eq_getElem hlen]
        have hz0 : 0 ≤ zs.getD k 0 := HNN.out _ (by simp [List.getD, List.getElem?_eq_getElem hlen])
        have ht0 := drop_nonneg HNN.out (k + 1)
        have HT2 := HT.out
        rw [hdr, tot] at HT2
        have htt := HTOT.out
        generalize zs.getD k 0 = z at *
        have hzb : x + z ≤ 4000000000 := by omega
        have HT3 : Hid (x + z + tot (zs.drop (k + 1)) = tot zs) := Lib.hid (by omega)
        clear hdr HT2 htt ht0
        go_wp2
        go_roundw
        case rel => exact ⟨k + 1, x + z, rfl, by go_num, by omega, HT3, by omega, by omega, by first | trivial | rfl⟩
        case measure => simp [intOf]; omega
      · obtain rfl : k = n := by omega
        have hd0 : zs.drop k = [] := List.drop_of_length_le (by rw [HN.out]; exact Nat.le_refl _)
        have h2 := HT.out
        rw [hd0] at h2
        simp only [tot, Int.add_zero] at h2
        have HX := Lib.hid h2
        clear h2 hd0
        by_cases h200 : x ≤ 200
        · obtain hS' : S = ⟨(wordL 0 zs).toArray⟩ := by rw [← HS.out]; unfold pwS; rw [if_pos (by have := HX.out; omega)]
          obtain rfl : c = 0 := by rw [← HCC.out]; unfold pwC; rw [if_pos (by have := HX.out; omega)]
          have HSS := Lib.hid hS'
          clear hS'
          have e0 : ¬ (200 < x) := by omega
          go_wp2
          go_loopw [8, 9] (fun sv i wr => ∃ (j : Nat) (sb : ByteArray), sv = .string sb ∧ i = .int .i64 j ∧ j ≤ k ∧ Hid (sb.data.toList ++ wordL j (zs.drop j) = wordL 0 zs) ∧ Hid ((sb.size : Int) + tot (zs.drop j) = tot zs) ∧ w2 = wr) (fun sv i wr => k - (intOf i).toNat)
          case atStart => exact ⟨0, ⟨#[]⟩, rfl, rfl, by omega, Lib.hid (by simp), Lib.hid (by simp [ByteArray.size]), rfl⟩
          case round =>
            obtain ⟨j, sb, rfl, rfl, hj, HW, HT4, rfl⟩ := hrel
            by_cases hlt2 : j < k
            · have hjk : (j : Int) < (k : Int) := by omega
              have hlen : j < zs.length := by rw [HN.out]; exact hlt2
              have q1 : w2.cell? ⟨g, j, none⟩ = some (.int .i64 (zs.getD j 0)) := by
                have := HG.out j hlen; simpa only [Nat.zero_add] using this
              have hdr : zs.drop j = zs.getD j 0 :: zs.drop (j + 1) := by
                rw [List.drop_eq_getElem_cons hlen]; simp [List.getD, List.getElem?_eq_getElem hlen]
              have hz0 : 0 ≤ zs.getD j 0 := HNN.out _ (by simp [List.getD, List.getElem?_eq_getElem hlen])
              have ht0 := drop_nonneg HNN.out (j + 1)
              have HT2 := HT4.out
              rw [hdr, tot] at HT2
              generalize zs.getD j 0 = z at *
              obtain ⟨m, rfl⟩ := Int.eq_ofNat_of_zero_le hz0
              have htt := HX.out
              have hsz : sb.size + m ≤ 200 := by omega
              have HT3 : Hid ((sb.size : Int) + m + tot (zs.drop (j + 1)) = tot zs) := Lib.hid (by omega)
              have hj0 : (0 : Int) ≤ (j : Int) := by omega
              have HW1 : Hid (sb.data.toList ++ (List.replicate m (if j % 2 = 0 then (84 : UInt8) else 76) ++ wordL (j + 1) (zs.drop (j + 1))) = wordL 0 zs) := by
                have := HW.out
                rw [hdr] at this
                exact Lib.hid this
              clear hdr HT2 htt ht0
              by_cases hpar : j % 2 = 0
              · have e1 : (j : Int) % 2 = 0 := by omega
                rw [if_pos hpar] at HW1
                clear hpar
                go_wp2
                go_loopw [8, 10] (fun sv i wr => ∃ (l : Nat) (sc : ByteArray), sv = .string sc ∧ i = .int .i64 l ∧ l ≤ m ∧ Hid (sc.data.toList ++ (List.replicate (m - l) (84 : UInt8) ++ wordL (j + 1) (zs.drop (j + 1))) = wordL 0 zs) ∧ sc.size = sb.size + l ∧ w2 = wr) (fun sv i wr => m - (intOf i).toNat)
                case atStart => exact ⟨0, sb, rfl, rfl, by omega, HW1, by omega, rfl⟩
                case round =>
                  obtain ⟨l, sc, rfl, rfl, hl2, HW2, hsc, rfl⟩ := hrel
                  by_cases hlt3 : l < m
                  · have hlm : (l : Int) < (m : Int) := by omega
                    have hfit : ¬ (9223372036854775807 < sc.size + 1) := by omega
                    go_wp2
                    go_roundw
                    case rel => exact ⟨l + 1, _, rfl, by go_num, by omega, Lib.hid (word_one hlt3 HW2.out), by rw [one_size]; omega, by first | trivial | rfl⟩
                    case measure => simp [intOf]; omega
                  · obtain rfl : l = m := by omega
                    go_wp2
                    go_roundw
                    case rel => exact ⟨j + 1, sc, rfl, by go_num, by omega, Lib.hid (by have := HW2.out; simpa using this), Lib.hid (by have := HT3.out; omega), by first | trivial | rfl⟩
                    case measure => simp [intOf]; omega
              · have e1 : (j : Int) % 2 = 1 := by omega
                rw [if_neg hpar] at HW1
                clear hpar
                go_wp2
                go_loopw [8, 10] (fun sv i wr => ∃ (l : Nat) (sc : ByteArray), sv = .string sc ∧ i = .int .i64 l ∧ l ≤ m ∧ Hid (sc.data.toList ++ (List.replicate (m - l) (76 : UInt8) ++ wordL (j + 1) (zs.drop (j + 1))) = wordL 0 zs) ∧ sc.size = sb.size + l ∧ w2 = wr) (fun sv i wr => m - (intOf i).toNat)
                case atStart => exact ⟨0, sb, rfl, rfl, by omega, HW1, by omega, rfl⟩
                case round =>
                  obtain ⟨l, sc, rfl, rfl, hl2, HW2, hsc, rfl⟩ := hrel
                  by_cases hlt3 : l < m
                  · have hlm : (l : Int) < (m : Int) := by omega
                    have hfit : ¬ (9223372036854775807 < sc.size + 1) := by omega
                    go_wp2
                    go_roundw
                    case rel => exact ⟨l + 1, _, rfl, by go_num, by omega, Lib.hid (word_one hlt3 HW2.out), by rw [one_size]; omega, by first | trivial | rfl⟩
                    case measure => simp [intOf]; omega
                  · obtain rfl : l = m := by omega
                    go_wp2
                    go_roundw
                    case rel => exact ⟨j + 1, sc, rfl, by go_num, by omega, Lib.hid (by have := HW2.out; simpa using this), Lib.hid (by have := HT3.out; omega), by first | trivial | rfl⟩
                    case measure => simp [intOf]; omega
            · obtain rfl : j = k := by omega
              have hd0 : zs.drop j = [] := List.drop_of_length_le (by rw [HN.out]; exact Nat.le_refl _)
              have h1 := HW.out
              rw [hd0] at h1
              simp only [wordL, List.append_nil] at h1
              obtain rfl : S = sb := by rw [HSS.out]; exact (word_end h1).symm
              clear h1 hd0
              go_wp2
              go_returns
              exact ⟨rfl, hB2⟩
        · obtain rfl : S = ⟨#[]⟩ := by rw [← HS.out]; unfold pwS; rw [if_neg (by have := HX.out; omega)]
          obtain rfl : c = 3 := by rw [← HCC.out]; unfold pwC; rw [if_neg (by have := HX.out; omega)]
          have e0 : 200 < x := by omega
          go_wp2
          go_returns
          exact ⟨rfl, hB2⟩
end Go.Proofs.Ytgpnfjpnbchglaa
