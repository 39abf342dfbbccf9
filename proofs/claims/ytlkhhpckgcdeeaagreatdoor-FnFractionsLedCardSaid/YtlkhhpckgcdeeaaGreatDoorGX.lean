/- Texts that are drawn: a text is damaged again and again, and that ends. -/
import Derived.Test.YtlkhhpckgcdeeaaGreatDoorGW
import Derived.Test.YtlkhhpckgcdeeaaGreatDoorGT
import Derived.Test.YtlkhhpckgcdeeaaGreatDoorGQ
import Derived.Test.YtlkhhpckgcdeeaaGreatDoorTC
namespace Go.Proofs.YtlkhhpckgcdeeaaGreatDoor
open Go.RowKit
set_option linter.unusedVariables false
set_option linter.unusedSimpArgs false
def mu (R : Nat → Nat) (m k h : Nat) : Nat := if k < m then (m - k) + 1275068420 else R (Lcg.f h)
def Mof (R : Nat → Nat) (m s : Nat) (w : World) : Nat :=
  match w.cell? ⟨s, 1, none⟩, w.cell? ⟨s, 2, none⟩ with
  | some (.int _ k), some (.int _ h) => mu R m k.toNat h.toNat
  | _, _ => 0
theorem Mof_eq {R : Nat → Nat} {m s : Nat} {w : World} {p : Option Addr} {c k h : Nat} (hS : SrcAt s w p m c k (h : Nat)) : Mof R m s w = mu R m k h := by
  obtain ⟨h1, h2, h3, h4, -⟩ := hS
  unfold Mof
  rw [h3, h4]
  rfl
def RunsOut (R : Nat → Nat) : Prop := (∀ z, R z ≤ 1275068419) ∧ (∀ z, Lcg.X z % 3 = 0 → R (Lcg.g z) < R z ∧ R (Lcg.g (Lcg.g z)) < R z)
theorem mu_le {R : Nat → Nat} (hR : RunsOut R) (m k h : Nat) (hm : m ≤ 4096) : mu R m k h ≤ 1275072516 := by
  unfold mu
  have := hR.1 (Lcg.f h)
  split <;> omega
theorem mu_less {R : Nat → Nat} (hR : RunsOut R) {m k k1 k2 h h2 n : Nat} (hk2 : k2 ≤ m) (h1 : k ≤ k1) (h3 : k < m → k < k1) (h4 : k1 ≤ k2)
    (h5 : k = m → (0 : Int) = ((Lcg.X (Lcg.f h) : Nat) : Int) % 3) (h6 : k = m → ((n = 0 ∧ h2 = Lcg.f (Lcg.f h)) ∨ (0 < n ∧ h2 = Lcg.f (Lcg.f (Lcg.f (Lcg.f h)))))) : mu R m k2 h2 < mu R m k h := by
  obtain ⟨C, hC⟩ : ∃ C, C = 1275068420 := ⟨_, rfl⟩
  have r2 : R (Lcg.f h2) < C := by rw [hC]; exact Nat.lt_succ_of_le (hR.1 (Lcg.f h2))
  unfold mu
  rw [← hC]
  clear hC
  by_cases hkm : k < m
  · have h7 := h3 hkm
    clear h5 h6 h3
    rw [if_pos hkm]
    by_cases hq : k2 < m
    · rw [if_pos hq]; omega
    · rw [if_neg hq]; omega
  · have hk : k = m := by omega
    rw [if_neg hkm, if_neg (by omega)]
    have hx : Lcg.X (Lcg.f h) % 3 = 0 := by have := h5 hk; omega
    obtain ⟨q1, q2⟩ := hR.2 _ hx
    rcases h6 hk with ⟨-, e⟩ | ⟨-, e⟩
    · rw [e, Lcg.ff]; exact q1
    · rw [e, Lcg.ff, Lcg.ff]; exact q2
set_option maxRecDepth 100000 in
set_option maxHeartbeats 2000000 in
theorem drawParseMatrix_c (v : Value) (w : World) (hv : CodeV w v) :
    Calls Tryz.prog 58 #[v] w fun e w' => ∃ str : ByteArray, e = .returned (.string str) ∧ str.size ≤ 4000000000 ∧ Below w.heap.size w w' := by
  obtain ⟨R, hR⟩ := Lcg.run_ex
  have HR : Hid (RunsOut R) := Lib.hid hR
  clear hR
  go_enter Tryz.func58, Tryz.ntmps58
  go_wp2_with fail
  refine (from_c v _ hv).mono ?_
  rintro e w1 ⟨s, rfl, hs, hS1, b1⟩
  have hz1 := b1.size
  go_wp2_with fail
  refine (draw_c s _ hS1).mono ?_
  rintro e w2 ⟨a, b, c0, d, rfl, hM, hS2, hK2⟩
  have hz2 := hK2.size
  have hs1 := hS1.lt
  have hb2 : Below w.heap.size w w2 := b1.trans ((hK2.mono (by omega)).below hs)
  clear b1 hK2 hS1
  obtain ⟨⟨a0, a1⟩, ⟨b0, b1⟩, ⟨q0, q1⟩, ⟨d0, d1⟩, -⟩ := isM_iff.mp hM
  clear hM
  have hlen : (joinT [a, b, c0, d] 44).length ≤ 88 := by
    have := joinT_len (b := 44) (zs := [a, b, c0, d]) (by intro z hz; simp only [List.mem_cons, List.not_mem_nil, or_false] at hz; rcases hz with rfl | rfl | rfl | rfl <;> omega)
    simp only [List.length_cons, List.length_nil] at this
    omega
  go_wp2_with fail
  refine (l01Text_c a b c0 d w2 a0 a1 b0 b1 q0 q1 d0 d1).mono ?_
  rintro e w3 ⟨rfl, b3⟩
  have hz3 := b3.size
  have hs2 := hS2.lt
  have hb3 : Below w.heap.size w w3 := hb2.trans (b3.mono (by omega))
  obtain ⟨p, m, c, k, h, hS3⟩ := (hS2.below b3 hs2).nat
  clear hS2 b3 hb2
  obtain ⟨t, ht⟩ : ∃ t : ByteArray, (⟨(joinT [a, b, c0, d] 44).toArray⟩ : ByteArray) = t := ⟨_, rfl⟩
  have htl : t.size ≤ 88 := by rw [← ht]; show (joinT [a, b, c0, d] 44).toArray.size ≤ 88; simpa using hlen
  rw [ht]
  clear ht hlen
  have hm := hS3.2.2.2.2.2.2.2.2.1
  have hs3 := hS3.1
  go_wp2
  go_loopw [4] (fun vt wr => ∃ (str : ByteArray) (k h : Nat), vt = .string str ∧ SrcAt s wr p m c k (h : Nat) ∧ Below w.heap.size w wr ∧ str.size + mu R m k h ≤ 1275072604) (fun vt wr => Mof R m s wr)
  case atStart => exact ⟨t, k, h, rfl, hS3, hb3, by have := mu_le HR.out m k h hm; omega⟩
  case round =>
    clear hS3 hb3 htl hs3
    obtain ⟨str, k, h, rfl, hS, hB, hl⟩ := hrel
    have hsr := hS.1
    go_wp2_with fail
    refine (next_x s 3 _ p m c k h hS (by omega) (by omega)).mono ?_
    rintro e w5 ⟨x, k1, rfl, hx0, hx1, hS5, hk1, hk2, hk3, hK5⟩
    have hz5 := hK5.size
    have hB5 : Below w.heap.size w w5 := hB.trans ((hK5.mono hB.size).below hs)
    have HMU := Lib.hid (Mof_eq (R := R) hS)
    by_cases h0 : x = 0
    · subst h0
      go_wp2_with fail
      refine (damage_c s str _ p m c k1 (Lcg.f h) hS5 (by omega)).mono ?_
      rintro e w6 ⟨str2, k2, h2, rfl, hsz, hS6, hk12, hk4, hK6⟩
      have hB6 : Below w.heap.size w w6 := hB5.trans ((hK6.mono hB5.size).below hs)
      have hless : mu R m k2 h2 < mu R m k h := mu_less HR.out (n := str.size) hS6.2.2.2.2.2.2.2.1 hk1 hk2 hk12 (fun e => (hk3 e).2) (fun e => (hk4 (hk3 e).1).2)
      go_wp2
      exact ⟨⟨str2, k2, h2, rfl, hS6, hB6, by omega⟩, by rw [HMU.out, Mof_eq hS6]; exact hless⟩
    · have h0' : (x == 0) = false := by simpa using h0
      go_wp2
      go_returns
      exact ⟨str, rfl, by omega, hB5⟩
set_option maxRecDepth 100000 in
set_option maxHeartbeats 2000000 in
theorem drawParseFraction_c (v : Value) (w : World) (hv : CodeV w v) :
    Calls Tryz.prog 34 #[v] w fun e w' => ∃ str : ByteArray, e = .returned (.string str) ∧ str.size ≤ 4000000000 ∧ Below w.heap.size w w' := by
  obtain ⟨R, hR⟩ := Lcg.run_ex
  have HR : Hid (RunsOut R) := Lib.hid hR
  clear hR
  go_enter Tryz.func34, Tryz.ntmps34
  go_wp2_with fail
  refine (from_c v _ hv).mono ?_
  rintro e w1 ⟨s, rfl, hs, hS1, b1⟩
  have hz1 := b1.size
  go_wp2_with fail
  refine (drawFraction_c s _ hS1).mono ?_
  rintro e w2 ⟨a, b, rfl, hM, hS2, hK2⟩
  have hz2 := hK2.size
  have hs1 := hS1.lt
  have hb2 : Below w.heap.size w w2 := b1.trans ((hK2.mono (by omega)).below hs)
  clear b1 hK2 hS1
  obtain ⟨⟨a0, a1⟩, ⟨b0, b1⟩, -, -⟩ := isF_iff.mp hM
  clear hM
  have hlen : (joinT [a, b] 47).length ≤ 88 := by
    have := joinT_len (b := 47) (zs := [a, b]) (by intro z hz; simp only [List.mem_cons, List.not_mem_nil, or_false] at hz; rcases hz with rfl | rfl <;> omega)
    simp only [List.length_cons, List.length_nil] at this
    omega
  go_wp2_with fail
  refine (l01FractionText_c a b w2 a0 a1 (by omega) b1).mono ?_
  rintro e w3 ⟨rfl, b3⟩
  have hz3 := b3.size
  have hs2 := hS2.lt
  have hb3 : Below w.heap.size w w3 := hb2.trans (b3.mono (by omega))
  obtain ⟨p, m, c, k, h, hS3⟩ := (hS2.below b3 hs2).nat
  clear hS2 b3 hb2
  obtain ⟨t, ht⟩ : ∃ t : ByteArray, (⟨(joinT [a, b] 47).toArray⟩ : ByteArray) = t := ⟨_, rfl⟩
  have htl : t.size ≤ 88 := by rw [← ht]; show (joinT [a, b] 47).toArray.size ≤ 88; simpa using hlen
  rw [ht]
  clear ht hlen
  have hm := hS3.2.2.2.2.2.2.2.2.1
  have hs3 := hS3.1
  go_wp2
  go_loopw [4] (fun vt wr => ∃ (str : ByteArray) (k h : Nat), vt = .string str ∧ SrcAt s wr p m c k (h : Nat) ∧ Below w.heap.size w wr ∧ str.size + mu R m k h ≤ 1275072604) (fun vt wr => Mof R m s wr)
  case atStart => exact ⟨t, k, h, rfl, hS3, hb3, by have := mu_le HR.out m k h hm; omega⟩
  case round =>
    clear hS3 hb3 htl hs3
    obtain ⟨str, k, h, rfl, hS, hB, hl⟩ := hrel
    have hsr := hS.1
    go_wp2_with fail
    refine (next_x s 3 _ p m c k h hS (by omega) (by omega)).mono ?_
    rintro e w5 ⟨x, k1, rfl, hx0, hx1, hS5, hk1, hk2, hk3, hK5⟩
    have hz5 := hK5.size
    have hB5 : Below w.heap.size w w5 := hB.trans ((hK5.mono hB.size).below hs)
    have HMU := Lib.hid (Mof_eq (R := R) hS)
    by_cases h0 : x = 0
    · subst h0
      go_wp2_with fail
      refine (damage_c s str _ p m c k1 (Lcg.f h) hS5 (by omega)).mono ?_
      rintro e w6 ⟨str2, k2, h2, rfl, hsz, hS6, hk12, hk4, hK6⟩
      have hB6 : Below w.heap.size w w6 := hB5.trans ((hK6.mono hB5.size).below hs)
      have hless : mu R m k2 h2 < mu R m k h := mu_less HR.out (n := str.size) hS6.2.2.2.2.2.2.2.1 hk1 hk2 hk12 (fun e => (hk3 e).2) (fun e => (hk4 (hk3 e).1).2)
      go_wp2
      exact ⟨⟨str2, k2, h2, rfl, hS6, hB6, by omega⟩, by rw [HMU.out, Mof_eq hS6]; exact hless⟩
    · have h0' : (x == 0) = false := by simpa using h0
      go_wp2
      go_returns
      exact ⟨str, rfl, by omega, hB5⟩
end Go.Proofs.YtlkhhpckgcdeeaaGreatDoor
