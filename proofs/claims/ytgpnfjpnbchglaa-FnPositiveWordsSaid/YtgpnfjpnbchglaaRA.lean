/- PositiveWord: the word of the runs in plain Lean; the program's walk. -/
import Derived.Test.YtgpnfjpnbchglaaAL
import Derived.Test.YtgpnfjpnbchglaaSH
namespace Go.Proofs.Ytgpnfjpnbchglaa
open Go.RowKit
open Plain (oft Runs)
set_option linter.unusedVariables false
set_option linter.unusedSimpArgs false
/-- the sum -/
def tot : List Int → Int
  | [] => 0
  | z :: zs => z + tot zs
/-- the letters: runs of T and of L in turn -/
def wordL : Nat → List Int → List UInt8
  | _, [] => []
  | i, z :: zs => List.replicate z.toNat (if i % 2 = 0 then 84 else 76) ++ wordL (i + 1) zs
theorem runs_tot {t : Bool} {a b c d : Int} {zs : List Int} (h : Runs t a b c d zs) : 0 ≤ a → 0 ≤ b → 0 ≤ c → 0 ≤ d → a * d - b * c = 1 → (∀ z ∈ zs, 0 ≤ z) ∧ 0 ≤ tot zs ∧ tot zs ≤ a + b + c + d := by
  induction h with
  | stop t => intros; exact ⟨by simp, by simp [tot], by simp [tot]⟩
  | up a b c d l hi h ih =>
    intro ha hb hc hd hdet
    have hz := (Plain.det_row hdet).1
    obtain ⟨k0, k1, k2, -⟩ := Plain.oft_spec ha hb hc hd hz
    generalize oft a b c d = k at *
    obtain ⟨i1, i2, i3⟩ := ih k1 k2 hc hd (Plain.det_up k hdet)
    have hm : k ≤ k * (c + d) := by
      have := Int.mul_le_mul_of_nonneg_left (show (1 : Int) ≤ c + d by omega) k0
      omega
    rw [Int.mul_add] at hm
    exact ⟨fun z hz => by rcases List.mem_cons.mp hz with rfl | hz; exact k0; exact i1 z hz, by simp only [tot]; omega, by simp only [tot]; omega⟩
  | down a b c d l hi h ih =>
    intro ha hb hc hd hdet
    have hz := (Plain.det_row hdet).2
    obtain ⟨k0, k1, k2, -⟩ := Plain.oft_spec hc hd ha hb hz
    generalize oft c d a b = k at *
    obtain ⟨i1, i2, i3⟩ := ih ha hb k1 k2 (Plain.det_down k hdet)
    have hm : k ≤ k * (a + b) := by
      have := Int.mul_le_mul_of_nonneg_left (show (1 : Int) ≤ a + b by omega) k0
      omega
    rw [Int.mul_add] at hm
    exact ⟨fun z hz => by rcases List.mem_cons.mp hz with rfl | hz; exact k0; exact i1 z hz, by simp only [tot]; omega, by simp only [tot]; omega⟩
theorem tot_nonneg {zs : List Int} (h : ∀ z ∈ zs, 0 ≤ z) : 0 ≤ tot zs := by
  induction zs with
  | nil => simp [tot]
  | cons z zs ih => have h1 := h z (by simp); have h2 := ih (fun x hx => h x (by simp [hx])); simp only [tot]; omega
theorem drop_nonneg {zs : List Int} (h : ∀ z ∈ zs, 0 ≤ z) (k : Nat) : 0 ≤ tot (zs.drop k) := tot_nonneg (fun z hz => h z (List.mem_of_mem_drop hz))
theorem repeatL_one (b : UInt8) : ∀ c, Lib.repeatL [b] c = List.replicate c b
  | 0 => rfl
  | c + 1 => by rw [Lib.repeatL, repeatL_one b c]; rfl
theorem word_step {zs : List Int} {k m : Nat} {s : ByteArray} {b : UInt8} (hd : zs.drop k = (m : Int) :: zs.drop (k + 1)) (hb : (if k % 2 = 0 then 84 else 76) = b) (h : s.data.toList ++ wordL k (zs.drop k) = wordL 0 zs) :
    (s ++ ⟨(Lib.repeatL [b] m).toArray⟩ : ByteArray).data.toList ++ wordL (k + 1) (zs.drop (k + 1)) = wordL 0 zs := by
  rw [hd, wordL, hb] at h
  rw [← h, repeatL_one]
  simp [ByteArray.data_append]
theorem word_size {m : Nat} {s : ByteArray} {b : UInt8} : (s ++ ⟨(Lib.repeatL [b] m).toArray⟩ : ByteArray).size = s.size + m := by
  rw [repeatL_one, ByteArray.size_append]
  show s.size + (List.replicate m b).toArray.size = _
  simp
theorem word_end {s : ByteArray} {l : List UInt8} (h : s.data.toList = l) : s = ⟨l.toArray⟩ := by
  subst h
  cases s with
  | mk d => cases d; rfl
/-- what PositiveWord answers for runs -/
def pwS (zs : List Int) : ByteArray := if tot zs ≤ 200 then ⟨(wordL 0 zs).toArray⟩ else ⟨#[]⟩
def pwC (zs : List Int) : Int := if tot zs ≤ 200 then 0 else 3
theorem PositiveWord_no (p q r s c : Int) (w : World) (hc : posC p q r s = c) (hz : c ≠ 0) :
    Calls Try.prog 18 #[.agg #[.int .i64 p, .int .i64 q, .int .i64 r, .int .i64 s]] w fun e w' => e = .returned (.tuple #[.string ⟨#[]⟩, .int .i64 c]) ∧ Below w.heap.size w w' := by
  have HC := Lib.hid hc
  have hz' : (c == 0) = false := by simpa using hz
  have hz2 : (c != 0) = true := by simpa using hz
  clear hc
  go_enter Try.func18, Try.ntmps18
  go_wp2_with fail
  refine (positiveCode_c _ _ _ _ _).mono ?_
  rintro e w1 ⟨rfl, b1⟩
  have zzb1 := b1.size; (try simp at zzb1); have zb1_0 : w.heap.size < w1.heap.size := (by omega); have kcb1_0 : ∀ o, w1.cell? ⟨w.heap.size, o, none⟩ = _ := fun o => b1.cell (p := ⟨w.heap.size, o, none⟩) (by go_size); have kfb1_0 : ∀ o, w1.frozen? ⟨w.heap.size, o, none⟩ = _ := fun o => b1.frozen (p := ⟨w.heap.size, o, none⟩) (by go_size); clear zzb1
  rw [HC.out]
  go_wp2
  go_returns
  exact ⟨rfl, (by repeat' (first | (with_reducible exact Below.refl _ _) | (with_reducible assumption) | (with_reducible refine below_drewN ?_ _) | (with_reducible refine Below.drew ?_) | (with_reducible refine Below.alloc ?_ ?_ _) | (with_reducible refine Below.setCell ?_ ?_ _) | (with_reducible refine Below.trans ?_ (Below.mono (by with_reducible assumption) ?_)) | go_size | (dsimp only; omega)))⟩
set_option maxRecDepth 100000 in
set_option maxHeartbeats 4000000 in
theorem PositiveWord_yes (p q r s : Int) (zs : List Int) (S : ByteArray) (c : Int) (w : World) (h : isM p q r s = true) (hp : posM p q r s = true) (hr : Runs true p q r s zs) (hl : zs.length ≤ 4000000001) (hnn : ∀ z ∈ zs, 0 ≤ z) (htot : tot zs ≤ 4000000000) (hS : pwS zs = S) (hC : pwC zs = c) :
    Calls Try.prog 18 #[.agg #[.int .i64 p, .int .i64 q, .int .i64 r, .int .i64 s]] w fun e w' => e = .returned (.tuple #[.string S, .int .i64 c]) ∧ Below w.heap.size w w' := by
  have hc : posC p q r s = 0 := by simp [posC, h, hp]
  have HC := Lib.hid hc
  have HR := Lib.hid hr
  have H := Lib.hid h
  have HP := Lib.hid hp
  have HNN := Lib.hid hnn
  have HS := Lib.hid hS
  have HCC := Lib.hid hC
  have HTOT := Lib.hid htot
  clear hc hr h hp hnn hS hC htot
  go_enter Try.func18, Try.ntmps18
  go_wp2_with fail
  refine (positiveCode_c _ _ _ _ _).mono ?_
  rintro e w1 ⟨rfl, b1⟩
  have zzb1 := b1.size; (try simp at zzb1); have zb1_0 : w.heap.size < w1.heap.size := (by omega); have kcb1_0 : ∀ o, w1.cell? ⟨w.heap.size, o, none⟩ = _ := fun o => b1.cell (p := ⟨w.heap.size, o, none⟩) (by go_size); have kfb1_0 : ∀ o, w1.frozen? ⟨w.heap.size, o, none⟩ = _ := fun o => b1.frozen (p := ⟨w.heap.size, o, none⟩) (by go_size); clear zzb1
  rw [HC.out]
  go_wp2_with fail
  refine (runs_c p q r s _ zs H.out HP.out HR.out hl).mono ?_
  rintro e w2 ⟨v, rfl, ho, b2⟩
  have hB2 : Below w.heap.size w w2 := (by repeat' (first | (with_reducible exact Below.refl _ _) | (with_reducible assumption) | (with_reducible refine below_drewN ?_ _) | (with_reducible refine Below.drew ?_) | (with_reducible refine Below.alloc ?_ ?_ _) | (with_reducible refine Below.setCell ?_ ?_ _) | (with_reducible refine Below.trans ?_ (Below.mono (by with_reducible assumption) ?_)) | go_size | (dsimp only; omega)))
  rcases ho with ⟨rfl, pp, cc, rfl⟩ | ⟨g, cg, rfl, hg0, hg1, hg2, -⟩
  · obtain rfl : S = ⟨#[]⟩ := by rw [← HS.out]; rfl
    obtain rfl : c = 0 := by rw [← HCC.out]; rfl
    go_wp2
    refine wp_loop_rounds 1 ?_
    rw [rounds_succ]
    go_wp2
    go_returns
    exact ⟨rfl, hB2⟩
  · have HG := Lib.hid hg2
    generalize hn : zs.length = n at *
    have HN := Lib.hid hn
    clear hg2 hn
    go_wp2
    go_loopw [5, 16] (fun sv i wr => ∃ (k : Nat) (sb : ByteArray), sv = .string sb ∧ i = .int .i64 k ∧ k ≤ n ∧ Hid (sb.data.toList ++ wordL k (zs.drop k) = wordL 0 zs) ∧ Hid ((sb.size : Int) + tot (zs.drop k) = tot zs) ∧ sb.size ≤ 200 ∧ Below w2.heap.size w2 wr) (fun sv i wr => n - (intOf i).toNat)
    case atStart => exact ⟨0, ⟨#[]⟩, rfl, rfl, by omega, Lib.hid (by simp), Lib.hid (by simp [ByteArray.size]), by simp [ByteArray.size], Below.refl _ _⟩
    case round =>
      obtain ⟨k, sb, rfl, rfl, hk, HW, HT, hsz, hB⟩ := hrel
      by_cases hlt : k < n
      · have hkn : (k : Int) < (n : Int) := by omega
        have hlen : k < zs.length := by rw [HN.out]; exact hlt
        have q1 : wr.cell? ⟨g, k, none⟩ = some (.int .i64 (zs.getD k 0)) := by
          rw [hB.cell (p := ⟨g, k, none⟩) hg1]; have := HG.out k hlen; simpa only [Nat.zero_add] using this
        have hdr : zs.drop k = zs.getD k 0 :: zs.drop (k + 1) := by
          rw [List.drop_eq_getElem_cons hlen]; simp [List.getD, List.getElem?_eq_getElem hlen]
        have hz0 : 0 ≤ zs.getD k 0 := HNN.out _ (by simp [List.getD, List.getElem?_eq_getElem hlen])
        have ht0 := drop_nonneg HNN.out (k + 1)
        have HT2 := HT.out
        rw [hdr, tot] at HT2
        generalize zs.getD k 0 = z at *
        obtain ⟨m, rfl⟩ := Int.eq_ofNat_of_zero_le hz0
        have htt := HTOT.out
        by_cases h200 : sb.size + m ≤ 200
        · have e0 : ¬ (200 < (sb.size : Int) + (m : Int)) := by omega
          have HDR := Lib.hid hdr
          have HT3 := Lib.hid HT2
          clear hdr HT2 htt ht0
          have hk0 : (0 : Int) ≤ (k : Int) := by omega
          by_cases hpar : k % 2 = 0
          · have e1 : (k : Int) % 2 = 0 := by omega
            have HB : Hid ((if k % 2 = 0 then (84 : UInt8) else 76) = 84) := Lib.hid (if_pos hpar)
            clear hpar
            go_wp2_with fail
            refine (Try.strings_Repeat ⟨#[84]⟩ m _ (by omega) (by simp [ByteArray.size]; omega)).mono ?_
            rintro e w3 ⟨rfl, b3⟩
            have hrl : (Lib.repeatL [84] m).length = m := by rw [repeatL_one]; simp
            have hfit : ¬ (9223372036854775807 < sb.size + (Lib.repeatL [84] m).length) := by omega
            go_wp2
            go_roundw
            case rel => exact ⟨k + 1, _, rfl, by go_num, by omega, Lib.hid (word_step HDR.out HB.out HW.out), Lib.hid (by have := HT3.out; have := word_size (m := m) (s := sb) (b := 84); omega), by have := word_size (m := m) (s := sb) (b := 84); omega, Below.trans hB (Below.mono b3 (by have := hB.size; omega))⟩
            case measure => simp [intOf]; omega
          · have e1 : (k : Int) % 2 = 1 := by omega
            have HB : Hid ((if k % 2 = 0 then (84 : UInt8) else 76) = 76) := Lib.hid (if_neg hpar)
            clear hpar
            go_wp2_with fail
            refine (Try.strings_Repeat ⟨#[76]⟩ m _ (by omega) (by simp [ByteArray.size]; omega)).mono ?_
            rintro e w3 ⟨rfl, b3⟩
            have hrl : (Lib.repeatL [76] m).length = m := by rw [repeatL_one]; simp
            have hfit : ¬ (9223372036854775807 < sb.size + (Lib.repeatL [76] m).length) := by omega
            go_wp2
            go_roundw
            case rel => exact ⟨k + 1, _, rfl, by go_num, by omega, Lib.hid (word_step HDR.out HB.out HW.out), Lib.hid (by have := HT3.out; have := word_size (m := m) (s := sb) (b := 76); omega), by have := word_size (m := m) (s := sb) (b := 76); omega, Below.trans hB (Below.mono b3 (by have := hB.size; omega))⟩
            case measure => simp [intOf]; omega
        · have hbig : 200 < tot zs := by omega
          obtain rfl : S = ⟨#[]⟩ := by rw [← HS.out]; unfold pwS; rw [if_neg (by omega)]
          obtain rfl : c = 3 := by rw [← HCC.out]; unfold pwC; rw [if_neg (by omega)]
          have e0 : 200 < (sb.size : Int) + (m : Int) := by omega
          have hmm : (m : Int) ≤ 4000000000 := by omega
          clear hdr HT2 ht0 htt hbig
          go_wp2
          go_returns
          exact ⟨rfl, Below.trans hB2 (Below.mono hB (by have := hB2.size; omega))⟩
      · obtain rfl : k = n := by omega
        have hd0 : zs.drop k = [] := List.drop_of_length_le (by rw [HN.out]; exact Nat.le_refl _)
        have h1 := HW.out
        have h2 := HT.out
        rw [hd0] at h1 h2
        simp only [wordL, List.append_nil, tot] at h1 h2
        obtain rfl : S = sb := by rw [← HS.out]; unfold pwS; rw [if_pos (by omega)]; exact (word_end h1).symm
        obtain rfl : c = 0 := by rw [← HCC.out]; unfold pwC; rw [if_pos (by omega)]
        clear h1 h2 hd0
        go_wp2
        go_returns
        exact ⟨rfl, Below.trans hB2 (Below.mono hB (by have := hB2.size; omega))⟩
end Go.Proofs.Ytgpnfjpnbchglaa
