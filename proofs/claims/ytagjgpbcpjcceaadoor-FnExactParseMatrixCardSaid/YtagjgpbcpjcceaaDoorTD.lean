/- Numbers in decimal: the reference reads them. -/
import Derived.Test.YtagjgpbcpjcceaaDoorTP
import Derived.Test.YtagjgpbcpjcceaaDoorTB
import Derived.IntWalk
import Derived.Lib.ItoaMem
namespace Go.Proofs.YtagjgpbcpjcceaaDoor
open Go.RowKit
set_option linter.unusedVariables false
set_option linter.unusedSimpArgs false
open Classical in
/-- what l01Number answers -/
noncomputable def numV (l : List UInt8) : Int := if l.length ≤ 10 ∧ Canon l then (dval 0 l : Int) else -1
theorem numV_yes {l : List UInt8} (h : l.length ≤ 10) (hc : Canon l) : numV l = dval 0 l := if_pos ⟨h, hc⟩
theorem numV_no {l : List UInt8} (h : ¬ (l.length ≤ 10 ∧ Canon l)) : numV l = -1 := if_neg h
theorem dval_lt (l : List UInt8) : ∀ acc k, acc < 10 ^ k → l.all digit = true → dval acc l < 10 ^ (k + l.length) := by
  induction l with
  | nil => intro acc k h _; rw [dval_nil]; exact h
  | cons c r ih =>
    intro acc k h hd
    simp only [List.all_cons, Bool.and_eq_true] at hd
    have hc := digit_iff.mp hd.1
    rw [dval_cons]
    have := ih (acc * 10 + (c.toNat - 48)) (k + 1) (by rw [Nat.pow_succ]; omega) hd.2
    rw [List.length_cons, show k + (r.length + 1) = k + 1 + r.length by omega]
    exact this
theorem dval_small {l : List UInt8} (h : l.length ≤ 9) (hd : l.all digit = true) : dval 0 l < 1000000000 := by
  have h1 := dval_lt l 0 0 (by decide) hd
  have h2 : 10 ^ (0 + l.length) ≤ 10 ^ 9 := Nat.pow_le_pow_right (by decide) (by omega)
  have e : (10 : Nat) ^ 9 = 1000000000 := by decide
  omega
theorem dval_small10 {l : List UInt8} (h : l.length ≤ 10) (hd : l.all digit = true) : dval 0 l < 10000000000 := by
  have h1 := dval_lt l 0 0 (by decide) hd
  have h2 : 10 ^ (0 + l.length) ≤ 10 ^ 10 := Nat.pow_le_pow_right (by decide) (by omega)
  have e : (10 : Nat) ^ 10 = 10000000000 := by decide
  omega
theorem byte_lt {c : UInt8} : c.toNat < 256 := by have := c.toNat_lt; omega
set_option maxRecDepth 100000 in
set_option maxHeartbeats 4000000 in
theorem l01Number_c (s : ByteArray) (w : World) (hs : s.size ≤ 1000000000000) :
    Calls Tryd.prog 80 #[.string s] w fun e w' => e = .returned (.int .i64 (numV s.data.toList)) ∧ w = w' := by
  have hlen : s.data.toList.length = s.size := by simp
  by_cases h0 : s.size = 0
  · have e0 : ((s.size : Int) == 0) = true := by simp [h0]
    have e1 : (s.size : Int) = 0 := by rw [h0]; rfl
    rw [numV_no (fun h => h.2.ne (List.length_eq_zero_iff.mp (by rw [hlen]; exact h0)))]
    clear hlen
    go_enter Tryd.func80, Tryd.ntmps80
    go_wp2
    go_returns
    exact ⟨rfl, rfl⟩
  · have e0 : ((s.size : Int) == 0) = false := by rw [beq_eq_false_iff_ne]; omega
    have e1 : ¬ (s.size : Int) = 0 := by omega
    by_cases h10 : s.size ≤ 10
    case neg =>
      have e2 : 10 < (s.size : Int) := by omega
      rw [numV_no (fun h => by have := h.1; rw [hlen] at this; exact h10 this)]
      clear hlen
      go_enter Tryd.func80, Tryd.ntmps80
      go_wp2
      go_returns
      exact ⟨rfl, rfl⟩
    case pos =>
      have e2 : ¬ (10 < (s.size : Int)) := by omega
      have hp : 0 < s.size := by omega
      have hpi : (0 : Int) < (s.size : Int) := by omega
      by_cases hz : 1 < s.size ∧ s[0] = 48
      · have e3 : 1 < (s.size : Int) := by omega
        have e4 : ((s[0].toNat : Int) == 48) = true := by rw [hz.2]; rfl
        have hhd : s.data.toList.head? = some s[0] := by
          rw [List.head?_eq_getElem?, List.getElem?_eq_getElem (by omega)]; rfl
        rw [numV_no (fun h => h.2.head (by omega) (by rw [hhd, hz.2]))]
        clear hlen hhd hz
        go_enter Tryd.func80, Tryd.ntmps80
        go_wp2
        go_returns
        exact ⟨rfl, rfl⟩
      · obtain ⟨V, hV⟩ : ∃ V, numV s.data.toList = V := ⟨_, rfl⟩
        rw [hV]
        have HV := Lib.hid hV
        have HLEN := Lib.hid hlen
        have HZ := Lib.hid hz
        have hg : (decide (1 < (s.size : Int)) && ((s[0].toNat : Int) == 48)) = false := by
          cases h : (decide (1 < (s.size : Int)) && ((s[0].toNat : Int) == 48))
          · rfl
          · exfalso
            rw [Bool.and_eq_true] at h
            have h1 : 1 < (s.size : Int) := by simpa using h.1
            have h2 : (s[0].toNat : Int) = 48 := by simpa using h.2
            exact hz ⟨by omega, UInt8.toNat_inj.mp (show s[0].toNat = 48 by omega)⟩
        clear hV hlen hz
        by_cases h1 : 1 < s.size
        · have e3 : 1 < (s.size : Int) := by omega
          have e4 : ((s[0].toNat : Int) == 48) = false := by simpa [e3] using hg
          clear hg
          go_enter Tryd.func80, Tryd.ntmps80
          go_wp2
          go_loopw [3, 4] (fun v i wr => ∃ (k x : Nat), v = .int .i64 x ∧ i = .int .i64 k ∧ k ≤ s.size ∧ Hid ((s.data.toList.take k).all digit = true) ∧ Hid (x = dval 0 (s.data.toList.take k)) ∧ w = wr) (fun v i wr => s.size - (intOf i).toNat)
          case atStart => exact ⟨0, 0, rfl, rfl, by omega, Lib.hid rfl, Lib.hid rfl, rfl⟩
          case round =>
            obtain ⟨k, x, rfl, rfl, hk, HD, HX, rfl⟩ := hrel
            by_cases hlt : k < s.size
            · have hki : (k : Int) < (s.size : Int) := by omega
              have hkl : k < s.data.toList.length := by rw [HLEN.out]; exact hlt
              have hel : s.data.toList[k] = s[k] := rfl
              have htk : s.data.toList.take (k + 1) = s.data.toList.take k ++ [s[k]] := by rw [List.take_succ_eq_append_getElem hkl, hel]
              have hx9 : x < 1000000000 := by rw [HX.out]; exact dval_small (by rw [List.length_take]; omega) HD.out
              have HTK := Lib.hid htk
              have hmem : digit s[k] = false → numV s.data.toList = -1 := fun hd => numV_no (fun h => by
                have := List.all_eq_true.mp h.2.dig s[k] (by rw [← hel]; exact List.getElem_mem _)
                rw [hd] at this; cases this)
              have hc256 : (s[k].toNat : Int) < 256 := by have := byte_lt (c := s[k]); omega
              clear htk hel
              by_cases hlo : s[k].toNat < 48
              · obtain rfl : V = -1 := by rw [← HV.out]; exact hmem (by simp [digit]; omega)
                have hlo' : (s[k].toNat : Int) < 48 := by omega
                clear hmem
                go_wp2
                go_returns
                exact ⟨rfl, rfl⟩
              · have hlo' : ¬ ((s[k].toNat : Int) < 48) := by omega
                by_cases hhi : 57 < s[k].toNat
                · obtain rfl : V = -1 := by rw [← HV.out]; exact hmem (by simp [digit]; omega)
                  have hhi' : 57 < (s[k].toNat : Int) := by omega
                  clear hmem
                  go_wp2
                  go_returns
                  exact ⟨rfl, rfl⟩
                · have hhi' : ¬ (57 < (s[k].toNat : Int)) := by omega
                  have hdg : digit s[k] = true := digit_iff.mpr ⟨by omega, by omega⟩
                  have HD2 : Hid ((s.data.toList.take (k + 1)).all digit = true) := Lib.hid (by rw [HTK.out, List.all_append, HD.out]; simp [hdg])
                  have HX2 : Hid (x * 10 + (s[k].toNat - 48) = dval 0 (s.data.toList.take (k + 1))) := Lib.hid (by rw [HTK.out, val_snoc, ← HX.out])
                  have wf1 : IntKind.u8.wrap ((s[k].toNat : Int) - 48) = (s[k].toNat : Int) - 48 := by simp [IntKind.wrap, IntKind.bits, IntKind.signed]; omega
                  clear hmem hdg
                  go_wp2
                  go_roundw
                  case rel => exact ⟨k + 1, x * 10 + (s[k].toNat - 48), by go_num, by go_num, by omega, HD2, HX2, by first | trivial | rfl⟩
                  case measure => simp [intOf]; omega
            · obtain rfl : k = s.size := by omega
              have hall : s.data.toList.take s.size = s.data.toList := List.take_of_length_le (by rw [HLEN.out]; exact Nat.le_refl _)
              have hcan : Canon s.data.toList := by
                have hd := HD.out
                rw [hall] at hd
                refine ⟨fun e => by have := HLEN.out; rw [e] at this; simp at this; omega, hd, fun hl he => HZ.out ?_⟩
                rw [HLEN.out] at hl
                refine ⟨hl, ?_⟩
                rw [List.head?_eq_getElem?, List.getElem?_eq_getElem (by rw [HLEN.out]; omega)] at he
                exact Option.some.inj he
              obtain rfl : V = (x : Int) := by rw [← HV.out, numV_yes (by rw [HLEN.out]; exact h10) hcan, HX.out, hall]
              clear hall hcan
              go_wp2
              go_returns
              exact ⟨rfl, rfl⟩
        · have e3 : ¬ (1 < (s.size : Int)) := by omega
          clear hg
          go_enter Tryd.func80, Tryd.ntmps80
          go_wp2
          go_loopw [3, 4] (fun v i wr => ∃ (k x : Nat), v = .int .i64 x ∧ i = .int .i64 k ∧ k ≤ s.size ∧ Hid ((s.data.toList.take k).all digit = true) ∧ Hid (x = dval 0 (s.data.toList.take k)) ∧ w = wr) (fun v i wr => s.size - (intOf i).toNat)
          case atStart => exact ⟨0, 0, rfl, rfl, by omega, Lib.hid rfl, Lib.hid rfl, rfl⟩
          case round =>
            obtain ⟨k, x, rfl, rfl, hk, HD, HX, rfl⟩ := hrel
            by_cases hlt : k < s.size
            · have hki : (k : Int) < (s.size : Int) := by omega
              have hkl : k < s.data.toList.length := by rw [HLEN.out]; exact hlt
              have hel : s.data.toList[k] = s[k] := rfl
              have htk : s.data.toList.take (k + 1) = s.data.toList.take k ++ [s[k]] := by rw [List.take_succ_eq_append_getElem hkl, hel]
              have hx9 : x < 1000000000 := by rw [HX.out]; exact dval_small (by rw [List.length_take]; omega) HD.out
              have HTK := Lib.hid htk
              have hmem : digit s[k] = false → numV s.data.toList = -1 := fun hd => numV_no (fun h => by
                have := List.all_eq_true.mp h.2.dig s[k] (by rw [← hel]; exact List.getElem_mem _)
                rw [hd] at this; cases this)
              have hc256 : (s[k].toNat : Int) < 256 := by have := byte_lt (c := s[k]); omega
              clear htk hel
              by_cases hlo : s[k].toNat < 48
              · obtain rfl : V = -1 := by rw [← HV.out]; exact hmem (by simp [digit]; omega)
                have hlo' : (s[k].toNat : Int) < 48 := by omega
                clear hmem
                go_wp2
                go_returns
                exact ⟨rfl, rfl⟩
              · have hlo' : ¬ ((s[k].toNat : Int) < 48) := by omega
                by_cases hhi : 57 < s[k].toNat
                · obtain rfl : V = -1 := by rw [← HV.out]; exact hmem (by simp [digit]; omega)
                  have hhi' : 57 < (s[k].toNat : Int) := by omega
                  clear hmem
                  go_wp2
                  go_returns
                  exact ⟨rfl, rfl⟩
                · have hhi' : ¬ (57 < (s[k].toNat : Int)) := by omega
                  have hdg : digit s[k] = true := digit_iff.mpr ⟨by omega, by omega⟩
                  have HD2 : Hid ((s.data.toList.take (k + 1)).all digit = true) := Lib.hid (by rw [HTK.out, List.all_append, HD.out]; simp [hdg])
                  have HX2 : Hid (x * 10 + (s[k].toNat - 48) = dval 0 (s.data.toList.take (k + 1))) := Lib.hid (by rw [HTK.out, val_snoc, ← HX.out])
                  have wf1 : IntKind.u8.wrap ((s[k].toNat : Int) - 48) = (s[k].toNat : Int) - 48 := by simp [IntKind.wrap, IntKind.bits, IntKind.signed]; omega
                  clear hmem hdg
                  go_wp2
                  go_roundw
                  case rel => exact ⟨k + 1, x * 10 + (s[k].toNat - 48), by go_num, by go_num, by omega, HD2, HX2, by first | trivial | rfl⟩
                  case measure => simp [intOf]; omega
            · obtain rfl : k = s.size := by omega
              have hall : s.data.toList.take s.size = s.data.toList := List.take_of_length_le (by rw [HLEN.out]; exact Nat.le_refl _)
              have hcan : Canon s.data.toList := by
                have hd := HD.out
                rw [hall] at hd
                refine ⟨fun e => by have := HLEN.out; rw [e] at this; simp at this; omega, hd, fun hl he => HZ.out ?_⟩
                rw [HLEN.out] at hl
                refine ⟨hl, ?_⟩
                rw [List.head?_eq_getElem?, List.getElem?_eq_getElem (by rw [HLEN.out]; omega)] at he
                exact Option.some.inj he
              obtain rfl : V = (x : Int) := by rw [← HV.out, numV_yes (by rw [HLEN.out]; exact h10) hcan, HX.out, hall]
              clear hall hcan
              go_wp2
              go_returns
              exact ⟨rfl, rfl⟩
/-- what l01Signed answers -/
noncomputable def sigV (l : List UInt8) : Int × Bool := if l.head? = some 45 then (-(numV l.tail), decide (0 < numV l.tail)) else (numV l, decide (0 ≤ numV l))
theorem numV_cases (l : List UInt8) : numV l = -1 ∨ (l.length ≤ 10 ∧ Canon l ∧ numV l = dval 0 l) := by
  by_cases h : l.length ≤ 10 ∧ Canon l
  · exact .inr ⟨h.1, h.2, numV_yes h.1 h.2⟩
  · exact .inl (numV_no h)
theorem numV_bd (l : List UInt8) : -1 ≤ numV l ∧ numV l ≤ 9999999999 := by
  rcases numV_cases l with h | ⟨h1, h2, h3⟩
  · omega
  · have := dval_small10 h1 h2.dig; omega
theorem canon_itoa {l : List UInt8} (h : Canon l) : Lib.itoa (dval 0 l : Int) = l := by
  rw [Lib.itoa_nonneg]; exact canon_dec _ l (Nat.le_refl _) h
theorem sigV_itoa {l : List UInt8} (h : (sigV l).2 = true) : Lib.itoa (sigV l).1 = l := by
  unfold sigV at h ⊢
  split at h
  · rename_i hh
    rw [if_pos hh]
    have hp : 0 < numV l.tail := by simpa using h
    rcases numV_cases l.tail with h1 | ⟨h1, h2, h3⟩
    · omega
    · show Lib.itoa (-(numV l.tail)) = l
      rw [h3]
      have hpos : 1 ≤ dval 0 l.tail := by omega
      rw [Lib.itoa_neg _ hpos]
      rw [canon_dec _ _ (Nat.le_refl _) h2]
      cases l with
      | nil => simp at hh
      | cons c r => simp at hh; rw [hh]; rfl
  · rename_i hh
    rw [if_neg hh]
    have hp : 0 ≤ numV l := by simpa using h
    rcases numV_cases l with h1 | ⟨h1, h2, h3⟩
    · omega
    · show Lib.itoa (numV l) = l
      rw [h3]; exact canon_itoa h2
theorem len10 {u : Nat} (h : u ≤ 1000000000) : (Lib.decDigits u).length ≤ 10 := dec_len 9 u (by omega)
theorem dec_head (u : Nat) : (Lib.decDigits u).head? ≠ some 45 := by
  obtain ⟨c1, -, -⟩ := dec_canon u u (Nat.le_refl _)
  intro e
  cases h : Lib.decDigits u with
  | nil => rw [h] at e; cases e
  | cons c r =>
    rw [h] at e
    have hc : c = 45 := by simpa using e
    have := c1.dig
    rw [h, hc] at this
    simp [digit] at this
theorem itoa_sigV {z : Int} (h0 : -1000000000 ≤ z) (h1 : z ≤ 1000000000) : sigV (Lib.itoa z) = (z, true) := by
  have key : ∀ u : Nat, u ≤ 1000000000 → numV (Lib.decDigits u) = u := by
    intro u hu
    obtain ⟨c1, c2, -⟩ := dec_canon u u (Nat.le_refl _)
    rw [numV_yes (len10 hu) c1, c2]
  by_cases hz : z < 0
  · obtain ⟨u, rfl⟩ : ∃ u : Nat, z = -(u : Int) := ⟨z.natAbs, by omega⟩
    rw [Lib.itoa_neg u (by omega)]
    unfold sigV
    rw [if_pos (by rfl), List.tail_cons, key u (by omega)]
    rw [decide_eq_true (by omega)]
  · obtain ⟨u, rfl⟩ : ∃ u : Nat, z = (u : Int) := ⟨z.toNat, by omega⟩
    rw [Lib.itoa_nonneg]
    unfold sigV
    rw [if_neg (dec_head u), key u (by omega)]
    rw [decide_eq_true (by omega)]
set_option maxRecDepth 100000 in
set_option maxHeartbeats 2000000 in
theorem l01Signed_c (s : ByteArray) (w : World) (hs : s.size ≤ 1000000000000) :
    Calls Tryd.prog 66 #[.string s] w fun e w' => e = .returned (.tuple #[.int .i64 (sigV s.data.toList).1, .bool (sigV s.data.toList).2]) ∧ w = w' := by
  have hlen : s.data.toList.length = s.size := by simp
  by_cases hm : s.data.toList.head? = some 45
  · have hp : 0 < s.size := by
      rcases Nat.eq_zero_or_pos s.size with h | h
      · have hn : s.data.toList = [] := List.length_eq_zero_iff.mp (by rw [hlen]; exact h)
        rw [hn] at hm; cases hm
      · exact h
    have hpi : 0 < (s.size : Int) := by omega
    have hb : s[0] = 45 := by
      rw [List.head?_eq_getElem?, List.getElem?_eq_getElem (by rw [hlen]; exact hp)] at hm
      exact Option.some.inj hm
    have e1 : ((s[0].toNat : Int) == 45) = true := by rw [hb]; rfl
    have hx : (s.extract 1 s.size).data.toList = s.data.toList.tail := by
      simp [ByteArray.data_extract, List.drop_one]
      exact List.take_of_length_le (by simp)
    have hxs : (s.extract 1 s.size).size ≤ 1000000000000 := by simp; omega
    unfold sigV
    rw [if_pos hm]
    obtain ⟨bd0, bd1⟩ := numV_bd s.data.toList.tail
    have HX := Lib.hid hx
    have HXS := Lib.hid hxs
    generalize hV : numV s.data.toList.tail = V at *
    have HV := Lib.hid hV
    clear hm hb hlen hx hxs hV
    go_enter Tryd.func66, Tryd.ntmps66
    go_wp2_with fail
    refine (l01Number_c _ _ HXS.out).mono ?_
    rintro e w' ⟨rfl, rfl⟩
    rw [HX.out, HV.out]
    go_wp2
    go_returns
    exact ⟨rfl, rfl⟩
  · unfold sigV
    rw [if_neg hm]
    obtain ⟨bd0, bd1⟩ := numV_bd s.data.toList
    generalize hV : numV s.data.toList = V at *
    have HV := Lib.hid hV
    clear hV
    by_cases hp : 0 < s.size
    · have hpi : 0 < (s.size : Int) := by omega
      have hb : ¬ s[0] = 45 := by
        intro e
        apply hm
        rw [List.head?_eq_getElem?, List.getElem?_eq_getElem (by rw [hlen]; exact hp)]
        exact congrArg some e
      have e1 : ((s[0].toNat : Int) == 45) = false := by
        rw [beq_eq_false_iff_ne]
        intro e
        exact hb (UInt8.toNat_inj.mp (show s[0].toNat = 45 by omega))
      clear hm hb hlen
      go_enter Tryd.func66, Tryd.ntmps66
      go_wp2_with fail
      refine (l01Number_c _ _ hs).mono ?_
      rintro e w' ⟨rfl, rfl⟩
      rw [HV.out]
      go_wp2
      go_returns
      exact ⟨rfl, rfl⟩
    · have hpi : ¬ (0 < (s.size : Int)) := by omega
      clear hm hlen
      go_enter Tryd.func66, Tryd.ntmps66
      go_wp2_with fail
      refine (l01Number_c _ _ hs).mono ?_
      rintro e w' ⟨rfl, rfl⟩
      rw [HV.out]
      go_wp2
      go_returns
      exact ⟨rfl, rfl⟩
end Go.Proofs.YtagjgpbcpjcceaaDoor
