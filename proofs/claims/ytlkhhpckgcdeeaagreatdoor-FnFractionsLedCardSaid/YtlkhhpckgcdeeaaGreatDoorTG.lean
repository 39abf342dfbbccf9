/- Numerals and their parts, in plain Lean. -/
import Derived.Lib.ItoaNum
import Derived.Lib.ItoaLen
import Derived.Lib.Join
import Derived.Lib.ParseIntB
import Derived.Lib.Split
import Derived.Lib.IndexBytes
import Derived.Test.YtlkhhpckgcdeeaaGreatDoorProg
import Derived.Test.YtlkhhpckgcdeeaaGreatDoorTB
import Derived.IntWalk
import Derived.Lib.ItoaMem
import Derived.Test.YtlkhhpckgcdeeaaGreatDoorTC
import Derived.Deep.RegionHeld3
namespace Go.Proofs.YtlkhhpckgcdeeaaGreatDoor
set_option linter.unusedVariables false
set_option linter.unusedSimpArgs false
/-- what digits spell -/
def dstep (a : Nat) (c : UInt8) : Nat := a * 10 + (c.toNat - 48)
def dval (acc : Nat) (l : List UInt8) : Nat := l.foldl dstep acc
theorem dval_nil (acc : Nat) : dval acc [] = acc := rfl
theorem dval_cons (acc : Nat) (c : UInt8) (r : List UInt8) : dval acc (c :: r) = dval (acc * 10 + (c.toNat - 48)) r := by
  unfold dval
  rw [List.foldl_cons]
  rfl
def digit (c : UInt8) : Bool := decide (48 ≤ c.toNat) && decide (c.toNat ≤ 57)
theorem digit_iff {c : UInt8} : digit c = true ↔ (48 ≤ c.toNat ∧ c.toNat ≤ 57) := by simp [digit]
theorem val_snoc (l : List UInt8) (c : UInt8) : ∀ acc, dval acc (l ++ [c]) = dval acc l * 10 + (c.toNat - 48) := by
  induction l with
  | nil => intro acc; rfl
  | cons x l ih => intro acc; exact ih _
theorem val_ge (l : List UInt8) : ∀ acc, acc ≤ dval acc l := by
  induction l with
  | nil => intro acc; exact Nat.le_refl _
  | cons x l ih => intro acc; have := ih (acc * 10 + (x.toNat - 48)); rw [dval_cons]; omega
theorem dec_small' {u : Nat} (h : u < 10) : Lib.decDigits u = [UInt8.ofNat (48 + u)] := Lib.decDigits_one h
theorem dec_big' {u : Nat} (h : ¬ u < 10) : Lib.decDigits u = Lib.decDigits (u / 10) ++ [UInt8.ofNat (48 + u % 10)] := by rw [Lib.decDigits, dif_neg h]
theorem ofNat_back {c : UInt8} (h : 48 ≤ c.toNat) : UInt8.ofNat (48 + (c.toNat - 48)) = c := by
  rw [show 48 + (c.toNat - 48) = c.toNat by omega]; simp
theorem toNat_digit {d : Nat} (h : d < 10) : (UInt8.ofNat (48 + d)).toNat = 48 + d := by simp [UInt8.toNat_ofNat']; omega
/-- a numeral without leading zeros -/
structure Canon (l : List UInt8) : Prop where
  ne : l ≠ []
  dig : l.all digit = true
  head : 1 < l.length → l.head? ≠ some 48
theorem canon_dec : ∀ n : Nat, ∀ l : List UInt8, l.length ≤ n → Canon l → Lib.decDigits (dval 0 l) = l := by
  intro n
  induction n with
  | zero => intro l hn h; exact absurd (List.length_eq_zero_iff.mp (by omega)) h.ne
  | succ n ih =>
    intro l hn h
    obtain ⟨l', c, rfl⟩ : ∃ l' c, l = l' ++ [c] := ⟨l.dropLast, l.getLast h.ne, (List.dropLast_concat_getLast h.ne).symm⟩
    have hd := h.dig
    rw [List.all_append, Bool.and_eq_true] at hd
    have hc : 48 ≤ c.toNat ∧ c.toNat ≤ 57 := by simpa [digit] using hd.2
    rw [val_snoc]
    cases l' with
    | nil =>
      have : dval 0 [] * 10 + (c.toNat - 48) = c.toNat - 48 := by rw [dval_nil]; omega
      rw [this, dec_small' (by omega), ofNat_back hc.1]
      rfl
    | cons x t =>
      have hx : x ≠ 48 := by
        have := h.head (by simp)
        simpa using this
      have hx' : 48 ≤ x.toNat ∧ x.toNat ≤ 57 := by
        have := hd.1
        simp only [List.all_cons, Bool.and_eq_true] at this
        exact digit_iff.mp this.1
      have hx2 : x.toNat ≠ 48 := fun e => hx (UInt8.toNat_inj.mp (by simpa using e))
      have hcan : Canon (x :: t) := ⟨by simp, hd.1, fun _ => by simpa using hx⟩
      have hi := ih (x :: t) (by simp at hn ⊢; omega) hcan
      have hpos : 1 ≤ dval 0 (x :: t) := by
        have := val_ge t (0 * 10 + (x.toNat - 48))
        rw [dval_cons]
        omega
      generalize dval 0 (x :: t) = v at *
      have hv : ¬ v * 10 + (c.toNat - 48) < 10 := by omega
      rw [dec_big' hv, show (v * 10 + (c.toNat - 48)) / 10 = v by omega, show (v * 10 + (c.toNat - 48)) % 10 = c.toNat - 48 by omega, hi, ofNat_back hc.1]
theorem dec_canon : ∀ n u : Nat, u ≤ n → Canon (Lib.decDigits u) ∧ dval 0 (Lib.decDigits u) = u ∧ (1 ≤ u → (Lib.decDigits u).head? ≠ some 48) := by
  have small : ∀ u, u < 10 → Canon (Lib.decDigits u) ∧ dval 0 (Lib.decDigits u) = u ∧ (1 ≤ u → (Lib.decDigits u).head? ≠ some 48) := by
    intro u h
    rw [dec_small' h]
    have ht := toNat_digit h
    refine ⟨⟨by simp, by simp [digit, ht]; omega, by simp⟩, by rw [dval_cons, dval_nil, ht]; omega, fun h1 => ?_⟩
    intro e
    have : UInt8.ofNat (48 + u) = 48 := by simpa using e
    rw [this] at ht
    have : (48 : UInt8).toNat = 48 := rfl
    omega
  intro n
  induction n with
  | zero => intro u hu; exact small u (by omega)
  | succ n ih =>
    intro u hu
    by_cases h : u < 10
    · exact small u h
    · obtain ⟨h1, h2, h3⟩ := ih (u / 10) (by omega)
      have h4 := h3 (by omega)
      have ht := toNat_digit (d := u % 10) (by omega)
      rw [dec_big' h]
      have hh : (Lib.decDigits (u / 10) ++ [UInt8.ofNat (48 + u % 10)]).head? = (Lib.decDigits (u / 10)).head? := by
        cases hd : Lib.decDigits (u / 10) with
        | nil => exact absurd hd h1.ne
        | cons x t => rfl
      refine ⟨⟨by simp, ?_, fun _ => by rw [hh]; exact h4⟩, by rw [val_snoc, h2, ht]; omega, fun _ => by rw [hh]; exact h4⟩
      rw [List.all_append, h1.dig]
      simp [digit, ht]; omega
theorem parse_mag (l : List UInt8) : ∀ acc, l.all digit = true → dval acc l ≤ 18446744073709551615 → Lib.parseUintM 18446744073709551615 acc l = .ok (dval acc l) := by
  induction l with
  | nil => intro acc _ _; rfl
  | cons c r ih =>
    intro acc hd hv
    simp only [List.all_cons, Bool.and_eq_true] at hd
    have hc := digit_iff.mp hd.1
    rw [dval_cons] at hv ⊢
    have hg := val_ge r (acc * 10 + (c.toNat - 48))
    rw [Lib.parseUintM, if_pos hc, if_neg (by omega), if_neg (by omega)]
    exact ih _ hd.2 hv
theorem parse_itoa {z : Int} (h0 : -1000000000 ≤ z) (h1 : z ≤ 1000000000) : Lib.parseIntB 64 (Lib.itoa z) = .ok z := by
  have key : ∀ u : Nat, u ≤ 1000000000 → Lib.parseUintB 64 (Lib.decDigits u) = .ok u := by
    intro u hu
    obtain ⟨c1, c2, -⟩ := dec_canon u u (Nat.le_refl _)
    unfold Lib.parseUintB
    rw [if_neg c1.ne]
    have := parse_mag (Lib.decDigits u) 0 c1.dig (by omega)
    rw [c2] at this
    exact this
  by_cases hz : z < 0
  · have hi : Lib.itoa z = 45 :: Lib.decDigits z.natAbs := by unfold Lib.itoa; rw [if_pos hz]
    rw [hi]
    unfold Lib.parseIntB
    have e1 : (45 : UInt8).toNat = 45 := rfl
    simp only [e1]
    rw [if_pos (by decide), key _ (by omega)]
    simp only [not_true_eq_false, false_and, if_false, true_and, if_true]
    rw [if_neg (by omega)]
    congr 1
    omega
  · have hi : Lib.itoa z = Lib.decDigits z.toNat := by unfold Lib.itoa; rw [if_neg hz]
    rw [hi]
    obtain ⟨c1, c2, -⟩ := dec_canon z.toNat z.toNat (Nat.le_refl _)
    have hk := key z.toNat (by omega)
    cases hd : Lib.decDigits z.toNat with
    | nil => exact absurd hd c1.ne
    | cons c r =>
      rw [hd] at hk
      have hdig := c1.dig
      rw [hd] at hdig
      simp only [List.all_cons, Bool.and_eq_true] at hdig
      have hc := digit_iff.mp hdig.1
      unfold Lib.parseIntB
      simp only
      rw [if_neg (by omega), hk]
      have : ¬ c.toNat = 45 := by omega
      simp only [this, not_false_eq_true, true_and, if_false, false_and]
      rw [if_neg (by omega)]
      congr 1
      omega
/-- a text cut at a byte -/
def parts (y : UInt8) : List UInt8 → List (List UInt8)
  | [] => [[]]
  | x :: l => if x = y then [] :: parts y l else match parts y l with
    | [] => [[x]]
    | h :: t => (x :: h) :: t
theorem parts_ne (y : UInt8) (l : List UInt8) : parts y l ≠ [] := by
  cases l with
  | nil => simp [parts]
  | cons x l =>
    unfold parts
    split
    · simp
    · split <;> simp
theorem parts_none {y : UInt8} {w : List UInt8} (h : y ∉ w) : parts y w = [w] := by
  induction w with
  | nil => rfl
  | cons x w ih =>
    have hx : x ≠ y := fun e => h (by simp [e])
    rw [parts, if_neg hx, ih (fun e => h (by simp [e]))]
theorem parts_cut {y : UInt8} {w : List UInt8} (h : y ∉ w) (r : List UInt8) : parts y (w ++ y :: r) = w :: parts y r := by
  induction w with
  | nil => rw [List.nil_append, parts, if_pos rfl]
  | cons x w ih =>
    have hx : x ≠ y := fun e => h (by simp [e])
    rw [List.cons_append, parts, if_neg hx, ih (fun e => h (by simp [e]))]
theorem join_cut (w : List UInt8) (y : UInt8) (v : List UInt8) (r : List (List UInt8)) : Lib.join (w :: v :: r) [y] = w ++ y :: Lib.join (v :: r) [y] := by
  rw [Lib.join_cons, Lib.join_cons]
  simp [Lib.joinTail]
theorem join_parts (y : UInt8) (l : List UInt8) : Lib.join (parts y l) [y] = l := by
  induction l with
  | nil => rw [parts, Lib.join_one]
  | cons x l ih =>
    unfold parts
    cases hp : parts y l with
    | nil => exact absurd hp (parts_ne y l)
    | cons h t =>
      rw [hp] at ih
      split
      · rename_i e
        subst e
        rw [join_cut, ih]; rfl
      · rw [Lib.join_cons] at ih ⊢
        rw [List.cons_append, ih]
theorem parts_join {y : UInt8} (w : List UInt8) (r : List (List UInt8)) (h : ∀ v ∈ w :: r, y ∉ v) : parts y (Lib.join (w :: r) [y]) = w :: r := by
  induction r generalizing w with
  | nil => rw [Lib.join_one]; exact parts_none (h w (by simp))
  | cons v r ih => rw [join_cut, parts_cut (h w (by simp)), ih v (fun u hu => h u (by simp [List.mem_cons.mp hu]))]
theorem indexByte_none {l : List UInt8} {y : UInt8} (h : Lib.indexByte l y = -1) : y ∉ l := by
  induction l with
  | nil => simp
  | cons x l ih =>
    unfold Lib.indexByte at h
    split at h
    · omega
    · rename_i hx
      split at h
      · rename_i hl
        intro hm
        rcases List.mem_cons.mp hm with e | hm
        · exact hx (by simp [e])
        · exact ih (by simpa using hl) hm
      · rename_i hl
        have h2 : Lib.indexByte l y ≠ -1 := by simpa using hl
        have h3 := Lib.index_ge l [y]
        rw [Lib.index_one] at h3
        omega
theorem indexByte_some {l : List UInt8} {y : UInt8} : ∀ {i : Nat}, Lib.indexByte l y = i → y ∉ l.take i ∧ l = l.take i ++ y :: l.drop (i + 1) := by
  induction l with
  | nil =>
    intro i h
    have : (-1 : Int) = i := h
    omega
  | cons x l ih =>
    intro i h
    unfold Lib.indexByte at h
    split at h
    · rename_i hx
      obtain rfl : i = 0 := by omega
      have : x = y := by simpa using hx
      subst this
      simp
    · rename_i hx
      have hxy : x ≠ y := by simpa using hx
      split at h
      · omega
      · have h0 := Lib.index_ge l [y]
        rw [Lib.index_one] at h0
        rename_i hl
        have h9 : Lib.indexByte l y ≠ -1 := by simpa using hl
        obtain ⟨j, rfl⟩ : ∃ j, i = j + 1 := ⟨i - 1, by omega⟩
        obtain ⟨h1, h2⟩ := ih (i := j) (by omega)
        refine ⟨?_, ?_⟩
        · rw [List.take_succ_cons]
          intro hm
          rcases List.mem_cons.mp hm with e | hm
          · exact hxy e.symm
          · exact h1 hm
        · rw [List.take_succ_cons, List.drop_succ_cons, List.cons_append, ← h2]
theorem splitK_parts (y : UInt8) : ∀ (k : Nat) (l : List UInt8), ((parts y l).length ≤ k + 1 → Lib.splitK [y] 0 k l = parts y l) ∧ (k + 1 < (parts y l).length → (Lib.splitK [y] 0 k l).length = k + 1) := by
  intro k
  induction k with
  | zero =>
    intro l
    refine ⟨fun h => ?_, fun _ => rfl⟩
    cases hp : parts y l with
    | nil => exact absurd hp (parts_ne y l)
    | cons w t =>
      rw [hp] at h
      have ht : t = [] := List.length_eq_zero_iff.mp (by simp only [List.length_cons] at h; omega)
      subst ht
      have := join_parts y l
      rw [hp, Lib.join_one] at this
      rw [this]; rfl
  | succ k ih =>
    intro l
    unfold Lib.splitK
    rw [Lib.index_one]
    by_cases hi : Lib.indexByte l y = -1
    · rw [if_pos (by simpa using hi), parts_none (indexByte_none hi)]
      exact ⟨fun _ => rfl, fun h => by simp at h⟩
    · rw [if_neg (by simpa using hi)]
      obtain ⟨i, hi2⟩ : ∃ i : Nat, Lib.indexByte l y = i := by
        have := Lib.index_ge l [y]
        rw [Lib.index_one] at this
        exact ⟨(Lib.indexByte l y).toNat, by omega⟩
      obtain ⟨h1, h2⟩ := indexByte_some hi2
      have hp : parts y l = l.take i :: parts y (l.drop (i + 1)) := by
        conv => lhs; rw [h2]
        exact parts_cut h1 _
      obtain ⟨i1, i2⟩ := ih (l.drop (i + 1))
      rw [hi2, hp]
      have e1 : ((i : Int).toNat + 0) = i := by omega
      have e2 : ((i : Int).toNat + [y].length) = i + 1 := by simp
      rw [e1, e2]
      refine ⟨fun h => by rw [i1 (by simp only [List.length_cons] at h; omega)], fun h => by have := i2 (by simp only [List.length_cons] at h; omega); simp [this]⟩
end Go.Proofs.YtlkhhpckgcdeeaaGreatDoor

/- Numbers in decimal: the reference reads them. -/
namespace Go.Proofs.YtlkhhpckgcdeeaaGreatDoor
open Go.RowKit
set_option linter.unusedVariables false
set_option linter.unusedSimpArgs false
open Classical in
/-- what l01Number answers -/
noncomputable def numV (l : List UInt8) : Int := if l.length ≤ 10 ∧ Canon l then (dval 0 l : Int) else -1
theorem numV_yes {l : List UInt8} (h : l.length ≤ 10) (hc : Canon l) : numV l = dval 0 l := if_pos ⟨h, hc⟩
theorem numV_no {l : List UInt8} (h : ¬ (l.length ≤ 10 ∧ Canon l)) : numV l = -1 := if_neg h
theorem dval_lt (l : List UInt8) : ∀ acc k, acc < 10 ^ k → l.all digit = true → dval acc l < 10 ^ (k + l.length) := by
  induction l with
  | nil => intro acc k h _; rw [dval_nil]; exact h
  | cons c r ih =>
    intro acc k h hd
    simp only [List.all_cons, Bool.and_eq_true] at hd
    have hc := digit_iff.mp hd.1
    rw [dval_cons]
    have := ih (acc * 10 + (c.toNat - 48)) (k + 1) (by rw [Nat.pow_succ]; omega) hd.2
    rw [List.length_cons, show k + (r.length + 1) = k + 1 + r.length by omega]
    exact this
theorem dval_small {l : List UInt8} (h : l.length ≤ 9) (hd : l.all digit = true) : dval 0 l < 1000000000 := by
  have h1 := dval_lt l 0 0 (by decide) hd
  have h2 : 10 ^ (0 + l.length) ≤ 10 ^ 9 := Nat.pow_le_pow_right (by decide) (by omega)
  have e : (10 : Nat) ^ 9 = 1000000000 := by decide
  omega
theorem dval_small10 {l : List UInt8} (h : l.length ≤ 10) (hd : l.all digit = true) : dval 0 l < 10000000000 := by
  have h1 := dval_lt l 0 0 (by decide) hd
  have h2 : 10 ^ (0 + l.length) ≤ 10 ^ 10 := Nat.pow_le_pow_right (by decide) (by omega)
  have e : (10 : Nat) ^ 10 = 10000000000 := by decide
  omega
theorem byte_lt {c : UInt8} : c.toNat < 256 := by have := c.toNat_lt; omega
set_option maxRecDepth 100000 in
set_option maxHeartbeats 4000000 in
theorem l01Number_c (s : ByteArray) (w : World) (hs : s.size ≤ 1000000000000) :
    Calls Tryz.prog 153 #[.string s] w fun e w' => e = .returned (.int .i64 (numV s.data.toList)) ∧ w = w' := by
  have hlen : s.data.toList.length = s.size := by simp
  by_cases h0 : s.size = 0
  · have e0 : ((s.size : Int) == 0) = true := by simp [h0]
    have e1 : (s.size : Int) = 0 := by rw [h0]; rfl
    rw [numV_no (fun h => h.2.ne (List.length_eq_zero_iff.mp (by rw [hlen]; exact h0)))]
    clear hlen
    go_enter Tryz.func153, Tryz.ntmps153
    go_wp2
    go_returns
    exact ⟨rfl, rfl⟩
  · have e0 : ((s.size : Int) == 0) = false := by rw [beq_eq_false_iff_ne]; omega
    have e1 : ¬ (s.size : Int) = 0 := by omega
    by_cases h10 : s.size ≤ 10
    case neg =>
      have e2 : 10 < (s.size : Int) := by omega
      rw [numV_no (fun h => by have := h.1; rw [hlen] at this; exact h10 this)]
      clear hlen
      go_enter Tryz.func153, Tryz.ntmps153
      go_wp2
      go_returns
      exact ⟨rfl, rfl⟩
    case pos =>
      have e2 : ¬ (10 < (s.size : Int)) := by omega
      have hp : 0 < s.size := by omega
      have hpi : (0 : Int) < (s.size : Int) := by omega
      by_cases hz : 1 < s.size ∧ s[0] = 48
      · have e3 : 1 < (s.size : Int) := by omega
        have e4 : ((s[0].toNat : Int) == 48) = true := by rw [hz.2]; rfl
        have hhd : s.data.toList.head? = some s[0] := by
          rw [List.head?_eq_getElem?, List.getElem?_eq_getElem (by omega)]; rfl
        rw [numV_no (fun h => h.2.head (by omega) (by rw [hhd, hz.2]))]
        clear hlen hhd hz
        go_enter Tryz.func153, Tryz.ntmps153
        go_wp2
        go_returns
        exact ⟨rfl, rfl⟩
      · obtain ⟨V, hV⟩ : ∃ V, numV s.data.toList = V := ⟨_, rfl⟩
        rw [hV]
        have HV := Lib.hid hV
        have HLEN := Lib.hid hlen
        have HZ := Lib.hid hz
        have hg : (decide (1 < (s.size : Int)) && ((s[0].toNat : Int) == 48)) = false := by
          cases h : (decide (1 < (s.size : Int)) && ((s[0].toNat : Int) == 48))
          · rfl
          · exfalso
            rw [Bool.and_eq_true] at h
            have h1 : 1 < (s.size : Int) := by simpa using h.1
            have h2 : (s[0].toNat : Int) = 48 := by simpa using h.2
            exact hz ⟨by omega, UInt8.toNat_inj.mp (show s[0].toNat = 48 by omega)⟩
        clear hV hlen hz
        by_cases h1 : 1 < s.size
        · have e3 : 1 < (s.size : Int) := by omega
          have e4 : ((s[0].toNat : Int) == 48) = false := by simpa [e3] using hg
          clear hg
          go_enter Tryz.func153, Tryz.ntmps153
          go_wp2
          go_loopw [3, 4] (fun v i wr => ∃ (k x : Nat), v = .int .i64 x ∧ i = .int .i64 k ∧ k ≤ s.size ∧ Hid ((s.data.toList.take k).all digit = true) ∧ Hid (x = dval 0 (s.data.toList.take k)) ∧ w = wr) (fun v i wr => s.size - (intOf i).toNat)
          case atStart => exact ⟨0, 0, rfl, rfl, by omega, Lib.hid rfl, Lib.hid rfl, rfl⟩
          case round =>
            obtain ⟨k, x, rfl, rfl, hk, HD, HX, rfl⟩ := hrel
            by_cases hlt : k < s.size
            · have hki : (k : Int) < (s.size : Int) := by omega
              have hkl : k < s.data.toList.length := by rw [HLEN.out]; exact hlt
              have hel : s.data.toList[k] = s[k] := rfl
              have htk : s.data.toList.take (k + 1) = s.data.toList.take k ++ [s[k]] := by rw [List.take_succ_eq_append_getElem hkl, hel]
              have hx9 : x < 1000000000 := by rw [HX.out]; exact dval_small (by rw [List.length_take]; omega) HD.out
              have HTK := Lib.hid htk
              have hmem : digit s[k] = false → numV s.data.toList = -1 := fun hd => numV_no (fun h => by
                have := List.all_eq_true.mp h.2.dig s[k] (by rw [← hel]; exact List.getElem_mem _)
                rw [hd] at this; cases this)
              have hc256 : (s[k].toNat : Int) < 256 := by have := byte_lt (c := s[k]); omega
              clear htk hel
              by_cases hlo : s[k].toNat < 48
              · obtain rfl : V = -1 := by rw [← HV.out]; exact hmem (by simp [digit]; omega)
                have hlo' : (s[k].toNat : Int) < 48 := by omega
                clear hmem
                go_wp2
                go_returns
                exact ⟨rfl, rfl⟩
              · have hlo' : ¬ ((s[k].toNat : Int) < 48) := by omega
                by_cases hhi : 57 < s[k].toNat
                · obtain rfl : V = -1 := by rw [← HV.out]; exact hmem (by simp [digit]; omega)
                  have hhi' : 57 < (s[k].toNat : Int) := by omega
                  clear hmem
                  go_wp2
                  go_returns
                  exact ⟨rfl, rfl⟩
                · have hhi' : ¬ (57 < (s[k].toNat : Int)) := by omega
                  have hdg : digit s[k] = true := digit_iff.mpr ⟨by omega, by omega⟩
                  have HD2 : Hid ((s.data.toList.take (k + 1)).all digit = true) := Lib.hid (by rw [HTK.out, List.all_append, HD.out]; simp [hdg])
                  have HX2 : Hid (x * 10 + (s[k].toNat - 48) = dval 0 (s.data.toList.take (k + 1))) := Lib.hid (by rw [HTK.out, val_snoc, ← HX.out])
                  have wf1 : IntKind.u8.wrap ((s[k].toNat : Int) - 48) = (s[k].toNat : Int) - 48 := by simp [IntKind.wrap, IntKind.bits, IntKind.signed]; omega
                  clear hmem hdg
                  go_wp2
                  go_roundw
                  case rel => exact ⟨k + 1, x * 10 + (s[k].toNat - 48), by go_num, by go_num, by omega, HD2, HX2, by first | trivial | rfl⟩
                  case measure => simp [intOf]; omega
            · obtain rfl : k = s.size := by omega
              have hall : s.data.toList.take s.size = s.data.toList := List.take_of_length_le (by rw [HLEN.out]; exact Nat.le_refl _)
              have hcan : Canon s.data.toList := by
                have hd := HD.out
                rw [hall] at hd
                refine ⟨fun e => by have := HLEN.out; rw [e] at this; simp at this; omega, hd, fun hl he => HZ.out ?_⟩
                rw [HLEN.out] at hl
                refine ⟨hl, ?_⟩
                rw [List.head?_eq_getElem?, List.getElem?_eq_getElem (by rw [HLEN.out]; omega)] at he
                exact Option.some.inj he
              obtain rfl : V = (x : Int) := by rw [← HV.out, numV_yes (by rw [HLEN.out]; exact h10) hcan, HX.out, hall]
              clear hall hcan
              go_wp2
              go_returns
              exact ⟨rfl, rfl⟩
        · have e3 : ¬ (1 < (s.size : Int)) := by omega
          clear hg
          go_enter Tryz.func153, Tryz.ntmps153
          go_wp2
          go_loopw [3, 4] (fun v i wr => ∃ (k x : Nat), v = .int .i64 x ∧ i = .int .i64 k ∧ k ≤ s.size ∧ Hid ((s.data.toList.take k).all digit = true) ∧ Hid (x = dval 0 (s.data.toList.take k)) ∧ w = wr) (fun v i wr => s.size - (intOf i).toNat)
          case atStart => exact ⟨0, 0, rfl, rfl, by omega, Lib.hid rfl, Lib.hid rfl, rfl⟩
          case round =>
            obtain ⟨k, x, rfl, rfl, hk, HD, HX, rfl⟩ := hrel
            by_cases hlt : k < s.size
            · have hki : (k : Int) < (s.size : Int) := by omega
              have hkl : k < s.data.toList.length := by rw [HLEN.out]; exact hlt
              have hel : s.data.toList[k] = s[k] := rfl
              have htk : s.data.toList.take (k + 1) = s.data.toList.take k ++ [s[k]] := by rw [List.take_succ_eq_append_getElem hkl, hel]
              have hx9 : x < 1000000000 := by rw [HX.out]; exact dval_small (by rw [List.length_take]; omega) HD.out
              have HTK := Lib.hid htk
              have hmem : digit s[k] = false → numV s.data.toList = -1 := fun hd => numV_no (fun h => by
                have := List.all_eq_true.mp h.2.dig s[k] (by rw [← hel]; exact List.getElem_mem _)
                rw [hd] at this; cases this)
              have hc256 : (s[k].toNat : Int) < 256 := by have := byte_lt (c := s[k]); omega
              clear htk hel
              by_cases hlo : s[k].toNat < 48
              · obtain rfl : V = -1 := by rw [← HV.out]; exact hmem (by simp [digit]; omega)
                have hlo' : (s[k].toNat : Int) < 48 := by omega
                clear hmem
                go_wp2
                go_returns
                exact ⟨rfl, rfl⟩
              · have hlo' : ¬ ((s[k].toNat : Int) < 48) := by omega
                by_cases hhi : 57 < s[k].toNat
                · obtain rfl : V = -1 := by rw [← HV.out]; exact hmem (by simp [digit]; omega)
                  have hhi' : 57 < (s[k].toNat : Int) := by omega
                  clear hmem
                  go_wp2
                  go_returns
                  exact ⟨rfl, rfl⟩
                · have hhi' : ¬ (57 < (s[k].toNat : Int)) := by omega
                  have hdg : digit s[k] = true := digit_iff.mpr ⟨by omega, by omega⟩
                  have HD2 : Hid ((s.data.toList.take (k + 1)).all digit = true) := Lib.hid (by rw [HTK.out, List.all_append, HD.out]; simp [hdg])
                  have HX2 : Hid (x * 10 + (s[k].toNat - 48) = dval 0 (s.data.toList.take (k + 1))) := Lib.hid (by rw [HTK.out, val_snoc, ← HX.out])
                  have wf1 : IntKind.u8.wrap ((s[k].toNat : Int) - 48) = (s[k].toNat : Int) - 48 := by simp [IntKind.wrap, IntKind.bits, IntKind.signed]; omega
                  clear hmem hdg
                  go_wp2
                  go_roundw
                  case rel => exact ⟨k + 1, x * 10 + (s[k].toNat - 48), by go_num, by go_num, by omega, HD2, HX2, by first | trivial | rfl⟩
                  case measure => simp [intOf]; omega
            · obtain rfl : k = s.size := by omega
              have hall : s.data.toList.take s.size = s.data.toList := List.take_of_length_le (by rw [HLEN.out]; exact Nat.le_refl _)
              have hcan : Canon s.data.toList := by
                have hd := HD.out
                rw [hall] at hd
                refine ⟨fun e => by have := HLEN.out; rw [e] at this; simp at this; omega, hd, fun hl he => HZ.out ?_⟩
                rw [HLEN.out] at hl
                refine ⟨hl, ?_⟩
                rw [List.head?_eq_getElem?, List.getElem?_eq_getElem (by rw [HLEN.out]; omega)] at he
                exact Option.some.inj he
              obtain rfl : V = (x : Int) := by rw [← HV.out, numV_yes (by rw [HLEN.out]; exact h10) hcan, HX.out, hall]
              clear hall hcan
              go_wp2
              go_returns
              exact ⟨rfl, rfl⟩
/-- what l01Signed answers -/
noncomputable def sigV (l : List UInt8) : Int × Bool := if l.head? = some 45 then (-(numV l.tail), decide (0 < numV l.tail)) else (numV l, decide (0 ≤ numV l))
theorem numV_cases (l : List UInt8) : numV l = -1 ∨ (l.length ≤ 10 ∧ Canon l ∧ numV l = dval 0 l) := by
  by_cases h : l.length ≤ 10 ∧ Canon l
  · exact .inr ⟨h.1, h.2, numV_yes h.1 h.2⟩
  · exact .inl (numV_no h)
theorem numV_bd (l : List UInt8) : -1 ≤ numV l ∧ numV l ≤ 9999999999 := by
  rcases numV_cases l with h | ⟨h1, h2, h3⟩
  · omega
  · have := dval_small10 h1 h2.dig; omega
theorem canon_itoa {l : List UInt8} (h : Canon l) : Lib.itoa (dval 0 l : Int) = l := by
  rw [Lib.itoa_nonneg]; exact canon_dec _ l (Nat.le_refl _) h
theorem sigV_itoa {l : List UInt8} (h : (sigV l).2 = true) : Lib.itoa (sigV l).1 = l := by
  unfold sigV at h ⊢
  split at h
  · rename_i hh
    rw [if_pos hh]
    have hp : 0 < numV l.tail := by simpa using h
    rcases numV_cases l.tail with h1 | ⟨h1, h2, h3⟩
    · omega
    · show Lib.itoa (-(numV l.tail)) = l
      rw [h3]
      have hpos : 1 ≤ dval 0 l.tail := by omega
      rw [Lib.itoa_neg _ hpos]
      rw [canon_dec _ _ (Nat.le_refl _) h2]
      cases l with
      | nil => simp at hh
      | cons c r => simp at hh; rw [hh]; rfl
  · rename_i hh
    rw [if_neg hh]
    have hp : 0 ≤ numV l := by simpa using h
    rcases numV_cases l with h1 | ⟨h1, h2, h3⟩
    · omega
    · show Lib.itoa (numV l) = l
      rw [h3]; exact canon_itoa h2
theorem len10 {u : Nat} (h : u ≤ 1000000000) : (Lib.decDigits u).length ≤ 10 := dec_len 9 u (by omega)
theorem dec_head (u : Nat) : (Lib.decDigits u).head? ≠ some 45 := by
  obtain ⟨c1, -, -⟩ := dec_canon u u (Nat.le_refl _)
  intro e
  cases h : Lib.decDigits u with
  | nil => rw [h] at e; cases e
  | cons c r =>
    rw [h] at e
    have hc : c = 45 := by simpa using e
    have := c1.dig
    rw [h, hc] at this
    simp [digit] at this
theorem itoa_sigV {z : Int} (h0 : -1000000000 ≤ z) (h1 : z ≤ 1000000000) : sigV (Lib.itoa z) = (z, true) := by
  have key : ∀ u : Nat, u ≤ 1000000000 → numV (Lib.decDigits u) = u := by
    intro u hu
    obtain ⟨c1, c2, -⟩ := dec_canon u u (Nat.le_refl _)
    rw [numV_yes (len10 hu) c1, c2]
  by_cases hz : z < 0
  · obtain ⟨u, rfl⟩ : ∃ u : Nat, z = -(u : Int) := ⟨z.natAbs, by omega⟩
    rw [Lib.itoa_neg u (by omega)]
    unfold sigV
    rw [if_pos (by rfl), List.tail_cons, key u (by omega)]
    rw [decide_eq_true (by omega)]
  · obtain ⟨u, rfl⟩ : ∃ u : Nat, z = (u : Int) := ⟨z.toNat, by omega⟩
    rw [Lib.itoa_nonneg]
    unfold sigV
    rw [if_neg (dec_head u), key u (by omega)]
    rw [decide_eq_true (by omega)]
set_option maxRecDepth 100000 in
set_option maxHeartbeats 2000000 in
theorem l01Signed_c (s : ByteArray) (w : World) (hs : s.size ≤ 1000000000000) :
    Calls Tryz.prog 138 #[.string s] w fun e w' => e = .returned (.tuple #[.int .i64 (sigV s.data.toList).1, .bool (sigV s.data.toList).2]) ∧ w = w' := by
  have hlen : s.data.toList.length = s.size := by simp
  by_cases hm : s.data.toList.head? = some 45
  · have hp : 0 < s.size := by
      rcases Nat.eq_zero_or_pos s.size with h | h
      · have hn : s.data.toList = [] := List.length_eq_zero_iff.mp (by rw [hlen]; exact h)
        rw [hn] at hm; cases hm
      · exact h
    have hpi : 0 < (s.size : Int) := by omega
    have hb : s[0] = 45 := by
      rw [List.head?_eq_getElem?, List.getElem?_eq_getElem (by rw [hlen]; exact hp)] at hm
      exact Option.some.inj hm
    have e1 : ((s[0].toNat : Int) == 45) = true := by rw [hb]; rfl
    have hx : (s.extract 1 s.size).data.toList = s.data.toList.tail := by
      simp [ByteArray.data_extract, List.drop_one]
      exact List.take_of_length_le (by simp)
    have hxs : (s.extract 1 s.size).size ≤ 1000000000000 := by simp; omega
    unfold sigV
    rw [if_pos hm]
    obtain ⟨bd0, bd1⟩ := numV_bd s.data.toList.tail
    have HX := Lib.hid hx
    have HXS := Lib.hid hxs
    generalize hV : numV s.data.toList.tail = V at *
    have HV := Lib.hid hV
    clear hm hb hlen hx hxs hV
    go_enter Tryz.func138, Tryz.ntmps138
    go_wp2_with fail
    refine (l01Number_c _ _ HXS.out).mono ?_
    rintro e w' ⟨rfl, rfl⟩
    rw [HX.out, HV.out]
    go_wp2
    go_returns
    exact ⟨rfl, rfl⟩
  · unfold sigV
    rw [if_neg hm]
    obtain ⟨bd0, bd1⟩ := numV_bd s.data.toList
    generalize hV : numV s.data.toList = V at *
    have HV := Lib.hid hV
    clear hV
    by_cases hp : 0 < s.size
    · have hpi : 0 < (s.size : Int) := by omega
      have hb : ¬ s[0] = 45 := by
        intro e
        apply hm
        rw [List.head?_eq_getElem?, List.getElem?_eq_getElem (by rw [hlen]; exact hp)]
        exact congrArg some e
      have e1 : ((s[0].toNat : Int) == 45) = false := by
        rw [beq_eq_false_iff_ne]
        intro e
        exact hb (UInt8.toNat_inj.mp (show s[0].toNat = 45 by omega))
      clear hm hb hlen
      go_enter Tryz.func138, Tryz.ntmps138
      go_wp2_with fail
      refine (l01Number_c _ _ hs).mono ?_
      rintro e w' ⟨rfl, rfl⟩
      rw [HV.out]
      go_wp2
      go_returns
      exact ⟨rfl, rfl⟩
    · have hpi : ¬ (0 < (s.size : Int)) := by omega
      clear hm hlen
      go_enter Tryz.func138, Tryz.ntmps138
      go_wp2_with fail
      refine (l01Number_c _ _ hs).mono ?_
      rintro e w' ⟨rfl, rfl⟩
      rw [HV.out]
      go_wp2
      go_returns
      exact ⟨rfl, rfl⟩
end Go.Proofs.YtlkhhpckgcdeeaaGreatDoor

/- Texts cut at a byte: the reference's l01Split. -/
namespace Go.Proofs.YtlkhhpckgcdeeaaGreatDoor
open Go.RowKit
set_option linter.unusedVariables false
set_option linter.unusedSimpArgs false
def str (p : List UInt8) : Value := .string ⟨p.toArray⟩
theorem extract_str (s : ByteArray) (a k : Nat) : (Value.string (s.extract a k)) = str ((s.data.toList.take k).drop a) := by
  unfold str
  congr 1
  apply ByteArray.ext
  apply Array.ext'
  simp [ByteArray.data_extract, List.drop_take]
theorem take_snoc9 {l : List UInt8} {k : Nat} (h : k < l.length) : l.take (k + 1) = l.take k ++ [l[k]] := List.take_succ_eq_append_getElem h
theorem drop_split {l : List UInt8} {a k : Nat} (ha : a ≤ k) (h : k < l.length) : l.drop a = (l.take k).drop a ++ l[k] :: l.drop (k + 1) := by
  have h1 : l = l.take k ++ (l[k] :: l.drop (k + 1)) := by rw [← List.drop_eq_getElem_cons h, List.take_append_drop]
  conv => lhs; rw [h1]
  rw [List.drop_append_of_le_length (by rw [List.length_take]; omega)]
set_option maxRecDepth 100000 in
set_option maxHeartbeats 4000000 in
theorem l01Split_c (s : ByteArray) (y : UInt8) (w : World) (hs : s.size ≤ 4000000000) :
    Calls Tryz.prog 137 #[.string s, .int .u8 y.toNat] w fun e w' => ∃ g cap, e = .returned (.slice (some ⟨g, 0, none⟩) (parts y s.data.toList).length cap) ∧ w.heap.size ≤ g ∧ g < w'.heap.size ∧ Hid (∀ (j : Nat) p, (parts y s.data.toList)[j]? = some p → w'.cell? ⟨g, 0 + j, none⟩ = some (str p)) ∧ Below w.heap.size w w' := by
  have hlen : s.data.toList.length = s.size := by simp
  have HLEN := Lib.hid hlen
  clear hlen
  obtain ⟨i0, hi, hz0, hz1, hz2⟩ := info_parts info_str
  have hown0 := own_new w w.heap.size 9 1 (Nat.le_refl _)
  go_enter Tryz.func137, Tryz.ntmps137
  go_wp2
  go_loopw [5, 6, 7] (fun v at_ i wr => ∃ (k a : Nat) (done : List (List UInt8)), at_ = .int .i64 a ∧ i = .int .i64 k ∧ a ≤ k ∧ k ≤ s.size ∧ done.length ≤ k ∧ v ≠ .slice none 0 0 ∧ wr.ownsRow w.heap.size 9 1 v done.length (done.map str) ∧ Hid (y ∉ (s.data.toList.take k).drop a) ∧ Hid (done ++ parts y (s.data.toList.drop a) = parts y s.data.toList) ∧ Below w.heap.size w wr ∧ w.heap.size < wr.heap.size) (fun v at_ i wr => s.size - (intOf i).toNat)
  case atStart => exact ⟨0, 0, [], rfl, rfl, by omega, by omega, by simp, by simp, by simpa using hown0, Lib.hid (by simp), Lib.hid (by simp), (by repeat' (first | (with_reducible exact Below.refl _ _) | (with_reducible assumption) | (with_reducible refine below_drewN ?_ _) | (with_reducible refine Below.drew ?_) | (with_reducible refine Below.alloc ?_ ?_ _) | (with_reducible refine Below.setCell ?_ ?_ _) | (with_reducible refine Below.trans ?_ (Below.mono (by with_reducible assumption) ?_)) | go_size | (dsimp only; omega))), by simp⟩
  case round =>
    obtain ⟨k, a, done, rfl, rfl, hak, hk, hdk, hnn, hown, HY, HP, hB, hsz⟩ := hrel
    clear hown0
    have hai : (a : Int) ≤ (k : Int) := by omega
    have ha0 : (0 : Int) ≤ (a : Int) := by omega
    have hkn : (k : Int) ≤ (s.size : Int) := by omega
    by_cases hlt : k < s.size
    · have hki : (k : Int) < (s.size : Int) := by omega
      have hkl : k < s.data.toList.length := by rw [HLEN.out]; exact hlt
      have hel : s.data.toList[k] = s[k] := rfl
      by_cases hc : s[k] = y
      · have e1 : ((s[k].toNat : Int) == (y.toNat : Int)) = true := by rw [hc]; simp
        have HP2 : Hid ((done ++ [(s.data.toList.take k).drop a]) ++ parts y (s.data.toList.drop (k + 1)) = parts y s.data.toList) := by
          have h := HP.out
          rw [drop_split hak hkl, hel, hc, parts_cut HY.out] at h
          rw [← h]
          exact Lib.hid (by simp)
        clear hel hc
        go_wp2_with (at_builtin; refine wpList_append_own _ rfl _ _ 104 rfl w.heap.size 9 i0 (.string ⟨#[]⟩) 1 16 under_strs hi hz0 hz1 hz2 rfl (by decide) _ _ _ rfl (hown.alloc _) ⟨wr.heap.size, 0, none⟩ 1 1 [.string (s.extract a k)] rfl rfl (cell_one_new _ _ _) (fun x hx => by simp at hx; subst hx; rfl) (by unfold maxLen; omega) (by omega) (by simp; omega) ?_; intro v' w3 hown3 hgrow3 hnil3)
        have hB3 : Below w.heap.size w w3 := Below.grown (Below.alloc hB (by omega) _) hgrow3 (by simp; omega) (fun k hk => (hown.lt k hk).1)
        have hs3 := hgrow3.size
        simp at hs3
        go_roundw
        case rel => exact ⟨k + 1, k + 1, done ++ [(s.data.toList.take k).drop a], by go_num, by go_num, by omega, by omega, by simp; omega, (by intro e; exact absurd ((hnil3.mp e).2) (by decide)), (by rw [List.length_append, List.map_append]; simp only [List.map_cons, List.map_nil, ← extract_str]; exact hown3), Lib.hid (by simp), HP2, hB3, by omega⟩
        case measure => simp [intOf]; omega
      · have e1 : ((s[k].toNat : Int) == (y.toNat : Int)) = false := by
          rw [beq_eq_false_iff_ne]
          intro e
          exact hc (UInt8.toNat_inj.mp (by omega))
        have HY2 : Hid (y ∉ (s.data.toList.take (k + 1)).drop a) := by
          apply Lib.hid
          rw [take_snoc9 hkl, List.drop_append_of_le_length (by rw [List.length_take]; omega), hel]
          intro hm
          rcases List.mem_append.mp hm with h | h
          · exact HY.out h
          · exact hc (List.mem_singleton.mp h).symm
        clear hel hc
        go_wp2
        go_roundw
        case rel => exact ⟨k + 1, a, done, rfl, by go_num, by omega, by omega, by omega, hnn, hown, HY2, HP, hB, by omega⟩
        case measure => simp [intOf]; omega
    · obtain rfl : k = s.size := by omega
      have hall : s.data.toList.take s.size = s.data.toList := List.take_of_length_le (by rw [HLEN.out]; exact Nat.le_refl _)
      have HP2 : Hid (parts y s.data.toList = done ++ [(s.data.toList.take s.size).drop a]) := by
        have h := HP.out
        have hy := HY.out
        rw [hall] at hy
        rw [parts_none hy] at h
        rw [hall]
        exact Lib.hid h.symm
      clear hall
      go_wp2_with (at_builtin; refine wpList_append_own _ rfl _ _ 104 rfl w.heap.size 9 i0 (.string ⟨#[]⟩) 1 16 under_strs hi hz0 hz1 hz2 rfl (by decide) _ _ _ rfl (hown.alloc _) ⟨wr.heap.size, 0, none⟩ 1 1 [.string (s.extract a s.size)] rfl rfl (cell_one_new _ _ _) (fun x hx => by simp at hx; subst hx; rfl) (by unfold maxLen; omega) (by omega) (by simp; omega) ?_; intro v' w3 hown3 hgrow3 hnil3)
      have hB3 : Below w.heap.size w w3 := Below.grown (Below.alloc hB (by omega) _) hgrow3 (by simp; omega) (fun k hk => (hown.lt k hk).1)
      have hc := @World.ownsRow.cells w3 w.heap.size 9 1 v' _ _ hown3
      have hlt := hown3.lt
      rcases hown3.2 with ⟨h1, h2⟩ | ⟨g, cap, cur, hv, hbg, hg, h3, h4, h5, h6⟩
      · exact absurd (hnil3.mp h1).2 (by decide)
      subst hv
      have hgl : g < w3.heap.size := (hlt g rfl).2
      have HC : Hid (∀ (j : Nat) p, (parts y s.data.toList)[j]? = some p → w3.cell? ⟨g, 0 + j, none⟩ = some (str p)) := by
        apply Lib.hid
        intro j p hj
        rw [HP2.out] at hj
        have h0 : (done.map str ++ [Value.string (s.extract a s.size)])[j]? = some (str p) := by
          rw [extract_str, ← List.map_singleton (f := str), ← List.map_append, List.getElem?_map, hj]; rfl
        have := hc (g := g) rfl j _ h0
        by_cases hj0 : j = 0
        · subst hj0; simpa [Addr.add] using this
        · simpa [Addr.add, hj0] using this
      have HN : Hid (done.length + 1 = (parts y s.data.toList).length) := Lib.hid (by rw [HP2.out]; simp)
      clear hc hlt hown3 h6 HP HP2 HY
      go_wp2
      go_returns
      exact ⟨g, cap, by rw [← HN.out]; rfl, hbg, hgl, HC, hB3⟩
end Go.Proofs.YtlkhhpckgcdeeaaGreatDoor

/- The numbers of a text: the reference's l01Numbers. -/
namespace Go.Proofs.YtlkhhpckgcdeeaaGreatDoor
open Go.RowKit
set_option linter.unusedVariables false
set_option linter.unusedSimpArgs false
theorem parts_len (y : UInt8) (l : List UInt8) : ∀ p ∈ parts y l, p.length ≤ l.length := by
  induction l with
  | nil => intro p hp; simp [parts] at hp; simp [hp]
  | cons x l ih =>
    intro p hp
    unfold parts at hp
    split at hp
    · rcases List.mem_cons.mp hp with rfl | hp
      · simp
      · have := ih p hp; simp; omega
    · cases hq : parts y l with
      | nil => exact absurd hq (parts_ne y l)
      | cons h t =>
        rw [hq] at hp ih
        rcases List.mem_cons.mp hp with rfl | hp
        · have := ih h (by simp); simp; omega
        · have := ih p (by simp [hp]); simp; omega
theorem parts_count (y : UInt8) (l : List UInt8) : (parts y l).length ≤ l.length + 1 := by
  induction l with
  | nil => simp [parts]
  | cons x l ih =>
    unfold parts
    split
    · simp; omega
    · cases hq : parts y l with
      | nil => simp
      | cons h t => rw [hq] at ih; simp at ih ⊢; omega
/-- all parts are numbers -/
noncomputable def okP (ps : List (List UInt8)) : Bool := ps.all fun p => (sigV p).2
noncomputable def numsP (ps : List (List UInt8)) : List Int := ps.map fun p => (sigV p).1
set_option maxRecDepth 100000 in
set_option maxHeartbeats 4000000 in
theorem l01Numbers_c (s : ByteArray) (y : UInt8) (w : World) (hs : s.size ≤ 4000000000) :
    Calls Tryz.prog 127 #[.string s, .int .u8 y.toNat] w fun e w' => ∃ v, e = .returned (.tuple #[v, .bool (okP (parts y s.data.toList))]) ∧ Hid (okP (parts y s.data.toList) = true → OwnI w.heap.size w' v (numsP (parts y s.data.toList))) ∧ Below w.heap.size w w' := by
  have hpl := parts_len y s.data.toList
  have hpc := parts_count y s.data.toList
  have hlen : s.data.toList.length = s.size := by simp
  rw [hlen] at hpl hpc
  obtain ⟨i0, hi, hz0, hz1, hz2⟩ := info_parts info_i64
  have KS := Lib.hid (fun w => l01Split_c s y w hs)
  generalize parts y s.data.toList = ps at *
  obtain ⟨B, hB0⟩ : ∃ B, okP ps = B := ⟨_, rfl⟩
  rw [hB0]
  have HB := Lib.hid hB0
  have HPL := Lib.hid hpl
  generalize hn : ps.length = n at *
  have HN := Lib.hid hn
  clear hB0 hpl hlen hn
  go_enter Tryz.func127, Tryz.ntmps127
  go_wp2_with fail
  refine (KS.out _).mono ?_
  rintro e w1 ⟨g, cap, rfl, hg0, hg1, HC, b1⟩
  have hown0 := own_new w1 w1.heap.size 2 1 (Nat.le_refl _)
  have hz1' := b1.size
  go_wp2
  go_loopw [7, 8] (fun v i wr => ∃ (k : Nat), i = .int .i64 k ∧ k ≤ n ∧ Hid (∀ j p, j < k → ps[j]? = some p → (sigV p).2 = true) ∧ wr.ownsRow w1.heap.size 2 1 v k (((numsP ps).take k).map (Value.int .i64)) ∧ Below w1.heap.size w1 wr) (fun v i wr => n - (intOf i).toNat)
  case atStart => exact ⟨0, rfl, by omega, Lib.hid (by intro j p h; omega), by simpa using hown0, (by repeat' (first | (with_reducible exact Below.refl _ _) | (with_reducible assumption) | (with_reducible refine below_drewN ?_ _) | (with_reducible refine Below.drew ?_) | (with_reducible refine Below.alloc ?_ ?_ _) | (with_reducible refine Below.setCell ?_ ?_ _) | (with_reducible refine Below.trans ?_ (Below.mono (by with_reducible assumption) ?_)) | go_size | (dsimp only; omega)))⟩
  case round =>
    obtain ⟨k, rfl, hk, HG, hown, hB⟩ := hrel
    clear hown0
    by_cases hlt : k < n
    · have hki : (k : Int) < (n : Int) := by omega
      have hkl : k < ps.length := by rw [HN.out]; exact hlt
      obtain ⟨p, hp⟩ : ∃ p, ps[k]? = some p := ⟨ps[k], List.getElem?_eq_getElem hkl⟩
      have hpm : p ∈ ps := List.mem_of_getElem? hp
      have hps : (⟨p.toArray⟩ : ByteArray).size ≤ 1000000000000 := by have := HPL.out p hpm; show p.toArray.size ≤ _; simp; omega
      have q1 : wr.cell? ⟨g, k, none⟩ = some (.string ⟨p.toArray⟩) := by
        rw [hB.cell (p := ⟨g, k, none⟩) hg1]; have := HC.out k p hp; simpa only [Nat.zero_add, str] using this
      have htk : ((numsP ps).take (k + 1)).map (Value.int .i64) = ((numsP ps).take k).map (Value.int .i64) ++ [.int .i64 (sigV p).1] := by
        have hnk : k < (numsP ps).length := by simp [numsP]; exact hkl
        have hv : (numsP ps)[k] = (sigV p).1 := by
          rw [List.getElem?_eq_getElem hkl] at hp
          simp [numsP, Option.some.inj hp]
        rw [List.take_succ_eq_append_getElem hnk, hv]; simp
      have HTK := Lib.hid htk
      have KP := Lib.hid (fun w => l01Signed_c ⟨p.toArray⟩ w hps)
      have HP := Lib.hid hp
      clear htk hps hpm hkl hp
      cases hs2 : (sigV p).2
      · obtain rfl : B = false := by
          rw [← HB.out]
          unfold okP
          rw [List.all_eq_false]
          exact ⟨p, List.mem_of_getElem? HP.out, by rw [hs2]; simp⟩
        have HS2 := Lib.hid hs2
        clear hs2
        go_wp2_with fail
        refine (KP.out _).mono ?_
        rintro e w2 ⟨rfl, rfl⟩
        rw [show (sigV (⟨p.toArray⟩ : ByteArray).data.toList).2 = false from HS2.out]
        go_wp2
        go_returns
        exact ⟨_, rfl, Lib.hid (fun h => by cases h), Below.trans b1 (Below.mono hB (by omega))⟩
      · have HG2 : Hid (∀ j p, j < k + 1 → ps[j]? = some p → (sigV p).2 = true) := by
          apply Lib.hid
          intro j q hj hq
          by_cases e : j = k
          · subst e
            rw [HP.out] at hq
            rw [← Option.some.inj hq]; exact hs2
          · exact HG.out j q (by omega) hq
        have HS2 := Lib.hid hs2
        clear hs2
        go_wp2_with fail
        refine (KP.out _).mono ?_
        rintro e w2 ⟨rfl, rfl⟩
        rw [show (sigV (⟨p.toArray⟩ : ByteArray).data.toList).2 = true from HS2.out, show (sigV (⟨p.toArray⟩ : ByteArray).data.toList).1 = (sigV p).1 from rfl]
        generalize (sigV p).1 = z at *
        go_wp2_with (at_builtin; refine wpList_append_own _ rfl _ _ 48 rfl w1.heap.size 2 i0 (.int .i64 0) 1 8 under_i64s hi hz0 hz1 hz2 rfl (by decide) _ _ _ rfl (hown.alloc _) ⟨wr.heap.size, 0, none⟩ 1 1 [.int .i64 z] rfl rfl (cell_one_new _ _ _) (fun x hx => by simp at hx; subst hx; rfl) (by unfold maxLen; omega) (by omega) (by simp; have := hB.size; omega) ?_; intro v' w3 hown3 hgrow3 hnil3)
        have hB3 : Below w1.heap.size w1 w3 := Below.grown (Below.alloc hB hB.size _) hgrow3 (by simp; have := hB.size; omega) (fun k hk => (hown.lt k hk).1)
        go_roundw
        case rel => exact ⟨k + 1, by go_num, by omega, HG2, (by rw [HTK.out]; exact hown3), hB3⟩
        case measure => simp [intOf]; omega
    · obtain rfl : k = n := by omega
      obtain rfl : B = true := by
        rw [← HB.out]
        unfold okP
        apply List.all_eq_true.mpr
        intro p hp
        obtain ⟨j, hj⟩ := List.getElem?_of_mem hp
        exact HG.out j p (by have := (List.getElem?_eq_some_iff.mp hj).1; rw [HN.out] at this; exact this) hj
      have hnl : (numsP ps).length = k := by unfold numsP; rw [List.length_map, HN.out]
      rw [List.take_of_length_le (by rw [hnl]; exact Nat.le_refl _), ← hnl] at hown
      have HO := Lib.hid ((OwnI.of_row hown).base (B' := w.heap.size) (by omega))
      clear hown hnl
      go_wp2
      go_returns
      exact ⟨_, rfl, Lib.hid (by first | exact HO.out | exact fun _ => HO.out), Below.trans b1 (Below.mono hB (by omega))⟩
end Go.Proofs.YtlkhhpckgcdeeaaGreatDoor

/- ParseFraction, ParseMatrix: the reference's walks. -/
namespace Go.Proofs.YtlkhhpckgcdeeaaGreatDoor
open Go.RowKit
set_option linter.unusedVariables false
set_option linter.unusedSimpArgs false
/-- what a text reads as -/
noncomputable def readF (l : List UInt8) : Bool := okP (parts 47 l) && decide ((numsP (parts 47 l)).length = 2) && isF ((numsP (parts 47 l)).getD 0 0) ((numsP (parts 47 l)).getD 1 0)
noncomputable def parseF (l : List UInt8) : Value := if readF l = true then .tuple #[.agg #[.int .i64 (((numsP (parts 47 l)).getD 0 0)), .int .i64 (((numsP (parts 47 l)).getD 1 0))], .int .i64 0] else .tuple #[.agg #[.int .i64 0, .int .i64 0], .int .i64 6]
set_option maxRecDepth 100000 in
set_option maxHeartbeats 4000000 in
theorem Fread_no (s : ByteArray) (w : World) (hs : s.size ≤ 4000000000) (h : readF s.data.toList = false) :
    Calls Tryz.prog 100 #[.string s] w fun e w' => e = .returned (.tuple #[.agg #[.int .i64 0, .int .i64 0], .bool false]) ∧ Below w.heap.size w w' := by
  have KN := Lib.hid (fun w => l01Numbers_c s 47 w hs)
  have hne : numsP (parts 47 s.data.toList) ≠ [] := by
    unfold numsP
    intro e
    exact parts_ne _ _ (List.map_eq_nil_iff.mp e)
  have H := Lib.hid h
  unfold readF at h
  generalize hps : parts 47 s.data.toList = ps at *
  cases ho : okP ps
  · have HO := Lib.hid ho
    clear h ho hps hne
    go_enter Tryz.func100, Tryz.ntmps100
    go_wp2_with fail
    refine (KN.out _).mono ?_
    rintro e w1 ⟨v, rfl, -, b1⟩
    rw [HO.out]
    have zzb1 := b1.size; (try simp at zzb1); have zb1_0 : w.heap.size < w1.heap.size := (by omega); have kcb1_0 : ∀ o, w1.cell? ⟨w.heap.size, o, none⟩ = _ := fun o => b1.cell (p := ⟨w.heap.size, o, none⟩) (by go_size); have kfb1_0 : ∀ o, w1.frozen? ⟨w.heap.size, o, none⟩ = _ := fun o => b1.frozen (p := ⟨w.heap.size, o, none⟩) (by go_size); clear zzb1
    go_wp2
    exact bodyPost_ret (v := .tuple #[.agg #[.int .i64 0, .int .i64 0], .bool false]) (by simp only [results, Tryz.results100]; go_simp) rfl ⟨rfl, (by repeat' (first | (with_reducible exact Below.refl _ _) | (with_reducible assumption) | (with_reducible refine below_drewN ?_ _) | (with_reducible refine Below.drew ?_) | (with_reducible refine Below.alloc ?_ ?_ _) | (with_reducible refine Below.setCell ?_ ?_ _) | (with_reducible refine Below.trans ?_ (Below.mono (by with_reducible assumption) ?_)) | go_size | (dsimp only; omega)))⟩
  · have HO := Lib.hid ho
    by_cases hl : (numsP ps).length = 2
    · obtain ⟨a, b, hz⟩ : ∃ a b : Int, numsP ps = [a, b] := by
        match hq : numsP ps, hl with
        | [x0, x1], _ => exact ⟨x0, x1, rfl⟩
      rw [hz] at h hne
      have hf : isF a b = false := by simpa [ho] using h
      have HF := Lib.hid hf
      have HZ := Lib.hid hz
      clear h ho hps hne hl hf hz
      go_enter Tryz.func100, Tryz.ntmps100
      go_wp2_with fail
      refine (KN.out _).mono ?_
      rintro e w1 ⟨v, rfl, hv, b1⟩
      have hv2 := hv.out HO.out
      rw [HO.out]
      rw [HZ.out] at hv2
      rcases hv2 with ⟨h, _⟩ | ⟨g, cg, rfl, hg0, hg1, hg2, -⟩
      · cases h
      have HR := Lib.hid hg2
      have zzb1 := b1.size; (try simp at zzb1); have zb1_0 : w.heap.size < w1.heap.size := (by omega); have kcb1_0 : ∀ o, w1.cell? ⟨w.heap.size, o, none⟩ = _ := fun o => b1.cell (p := ⟨w.heap.size, o, none⟩) (by go_size); have kfb1_0 : ∀ o, w1.frozen? ⟨w.heap.size, o, none⟩ = _ := fun o => b1.frozen (p := ⟨w.heap.size, o, none⟩) (by go_size); clear zzb1
      have q0 : w1.cell? ⟨g, 0, none⟩ = some (.int .i64 a) := by have := HR.out 0 (by simp); simpa using this
      have q1 : w1.cell? ⟨g, 1, none⟩ = some (.int .i64 b) := by have := HR.out 1 (by simp); simpa using this
      have o0 : w1.cell? ⟨w.heap.size, 0, none⟩ = some (.int .i64 0) := by rw [kcb1_0]; go_simp
      have o1 : w1.cell? ⟨w.heap.size, 1, none⟩ = some (.int .i64 0) := by rw [kcb1_0]; go_simp
      have of : ∀ i, w1.frozen? ⟨w.heap.size, i, none⟩ = false := by intro i; rw [kfb1_0]; go_simp
      have hB1 : Below w.heap.size w w1 := (by repeat' (first | (with_reducible exact Below.refl _ _) | (with_reducible assumption) | (with_reducible refine below_drewN ?_ _) | (with_reducible refine Below.drew ?_) | (with_reducible refine Below.alloc ?_ ?_ _) | (with_reducible refine Below.setCell ?_ ?_ _) | (with_reducible refine Below.trans ?_ (Below.mono (by with_reducible assumption) ?_)) | go_size | (dsimp only; omega)))
      have hgw : w.heap.size < g := by simp at hg0; omega
      clear hg2 hv b1 kcb1_0 kfb1_0 HR
      rw [show ([a, b] : List Int).length = 2 from rfl]
      go_wp2
      go_region_held3 (fun w' => w'.cell? ⟨g, 0, none⟩ = some (.int .i64 a) ∧ w'.cell? ⟨g, 1, none⟩ = some (.int .i64 b)) (first | go_keep | (go_split_ands; refine ⟨?_, ?_⟩ <;> first | (with_reducible assumption) | (with_reducible exact keep_alloc (by with_reducible assumption) (by dsimp only; omega)) | (with_reducible exact keep_new (by with_reducible assumption)))) (fail)
      all_goals (try go_split_ands)
      all_goals (go_wp2_with fail; refine (l01Fraction_c _ _ _).mono ?_; rintro e w2 ⟨rfl, b2⟩; rw [HF.out])
      all_goals (have zzb2 := b2.size; (try simp at zzb2); have zb2_0 : w.heap.size < w2.heap.size := (by omega); have kcb2_0 : ∀ o, w2.cell? ⟨w.heap.size, o, none⟩ = _ := fun o => b2.cell (p := ⟨w.heap.size, o, none⟩) (by go_size); have kfb2_0 : ∀ o, w2.frozen? ⟨w.heap.size, o, none⟩ = _ := fun o => b2.frozen (p := ⟨w.heap.size, o, none⟩) (by go_size); clear zzb2)
      all_goals go_wp2
      all_goals exact bodyPost_ret (v := .tuple #[.agg #[.int .i64 0, .int .i64 0], .bool false]) (by simp only [results, Tryz.results100]; go_simp) rfl ⟨rfl, (by repeat' (first | (with_reducible exact Below.refl _ _) | (with_reducible assumption) | (with_reducible refine below_drewN ?_ _) | (with_reducible refine Below.drew ?_) | (with_reducible refine Below.alloc ?_ ?_ _) | (with_reducible refine Below.setCell ?_ ?_ _) | (with_reducible refine Below.trans ?_ (Below.mono (by with_reducible assumption) ?_)) | go_size | (dsimp only; omega)))⟩
    · have hl' : ¬ (((numsP ps).length : Int) = 2) := by omega
      have hl2 : (((numsP ps).length : Int) == 2) = false := by simpa using hl'
      have hl3 : (((numsP ps).length : Int) != 2) = true := by simpa using hl'
      clear h ho hps hl
      go_enter Tryz.func100, Tryz.ntmps100
      go_wp2_with fail
      refine (KN.out _).mono ?_
      rintro e w1 ⟨v, rfl, hv, b1⟩
      have hv2 := hv.out HO.out
      rw [HO.out]
      rcases hv2 with ⟨h, _⟩ | ⟨g, cg, rfl, hg0, hg1, hg2, -⟩
      · exact absurd h hne
      clear hg2 hv
      have zzb1 := b1.size; (try simp at zzb1); have zb1_0 : w.heap.size < w1.heap.size := (by omega); have kcb1_0 : ∀ o, w1.cell? ⟨w.heap.size, o, none⟩ = _ := fun o => b1.cell (p := ⟨w.heap.size, o, none⟩) (by go_size); have kfb1_0 : ∀ o, w1.frozen? ⟨w.heap.size, o, none⟩ = _ := fun o => b1.frozen (p := ⟨w.heap.size, o, none⟩) (by go_size); clear zzb1
      go_wp2
      exact bodyPost_ret (v := .tuple #[.agg #[.int .i64 0, .int .i64 0], .bool false]) (by simp only [results, Tryz.results100]; go_simp) rfl ⟨rfl, (by repeat' (first | (with_reducible exact Below.refl _ _) | (with_reducible assumption) | (with_reducible refine below_drewN ?_ _) | (with_reducible refine Below.drew ?_) | (with_reducible refine Below.alloc ?_ ?_ _) | (with_reducible refine Below.setCell ?_ ?_ _) | (with_reducible refine Below.trans ?_ (Below.mono (by with_reducible assumption) ?_)) | go_size | (dsimp only; omega)))⟩
set_option maxRecDepth 100000 in
set_option maxHeartbeats 4000000 in
theorem Fread_yes (s : ByteArray) (a b : Int) (w : World) (hs : s.size ≤ 4000000000) (ho : okP (parts 47 s.data.toList) = true) (hz : numsP (parts 47 s.data.toList) = [a, b]) (hf : isF a b = true) :
    Calls Tryz.prog 100 #[.string s] w fun e w' => e = .returned (.tuple #[.agg #[.int .i64 a, .int .i64 b], .bool true]) ∧ Below w.heap.size w w' := by
  have KN := Lib.hid (fun w => l01Numbers_c s 47 w hs)
  have HO := Lib.hid ho
  have HZ := Lib.hid hz
  have HF := Lib.hid hf
  clear ho hz hf
  go_enter Tryz.func100, Tryz.ntmps100
  go_wp2_with fail
  refine (KN.out _).mono ?_
  rintro e w1 ⟨v, rfl, hv, b1⟩
  have hv2 := hv.out HO.out
  rw [HO.out]
  rw [HZ.out] at hv2
  rcases hv2 with ⟨h, _⟩ | ⟨g, cg, rfl, hg0, hg1, hg2, -⟩
  · cases h
  · have HR := Lib.hid hg2
    have zzb1 := b1.size; (try simp at zzb1); have zb1_0 : w.heap.size < w1.heap.size := (by omega); have kcb1_0 : ∀ o, w1.cell? ⟨w.heap.size, o, none⟩ = _ := fun o => b1.cell (p := ⟨w.heap.size, o, none⟩) (by go_size); have kfb1_0 : ∀ o, w1.frozen? ⟨w.heap.size, o, none⟩ = _ := fun o => b1.frozen (p := ⟨w.heap.size, o, none⟩) (by go_size); clear zzb1
    have q0 : w1.cell? ⟨g, 0, none⟩ = some (.int .i64 a) := by have := HR.out 0 (by simp); simpa using this
    have q1 : w1.cell? ⟨g, 1, none⟩ = some (.int .i64 b) := by have := HR.out 1 (by simp); simpa using this
    have o0 : w1.cell? ⟨w.heap.size, 0, none⟩ = some (.int .i64 0) := by rw [kcb1_0]; go_simp
    have o1 : w1.cell? ⟨w.heap.size, 1, none⟩ = some (.int .i64 0) := by rw [kcb1_0]; go_simp
    have of : ∀ i, w1.frozen? ⟨w.heap.size, i, none⟩ = false := by intro i; rw [kfb1_0]; go_simp
    have hB1 : Below w.heap.size w w1 := (by repeat' (first | (with_reducible exact Below.refl _ _) | (with_reducible assumption) | (with_reducible refine below_drewN ?_ _) | (with_reducible refine Below.drew ?_) | (with_reducible refine Below.alloc ?_ ?_ _) | (with_reducible refine Below.setCell ?_ ?_ _) | (with_reducible refine Below.trans ?_ (Below.mono (by with_reducible assumption) ?_)) | go_size | (dsimp only; omega)))
    have hgw : w.heap.size < g := by simp at hg0; omega
    clear hg2 hv b1 kcb1_0 kfb1_0 HR
    rw [show ([a, b] : List Int).length = 2 from rfl]
    go_wp2
    go_region_held3 (fun w' => w'.cell? ⟨g, 0, none⟩ = some (.int .i64 a) ∧ w'.cell? ⟨g, 1, none⟩ = some (.int .i64 b)) (first | go_keep | (go_split_ands; refine ⟨?_, ?_⟩ <;> first | (with_reducible assumption) | (with_reducible exact keep_alloc (by with_reducible assumption) (by dsimp only; omega)) | (with_reducible exact keep_new (by with_reducible assumption)))) (fail)
    all_goals (try go_split_ands)
    all_goals (go_wp2_with fail; refine (l01Fraction_c _ _ _).mono ?_; rintro e w2 ⟨rfl, b2⟩; rw [HF.out])
    all_goals (have zzb2 := b2.size; (try simp at zzb2); have zb2_w0 : w.heap.size < w2.heap.size := (by omega); have kcb2_w0 : ∀ o, w2.cell? ⟨w.heap.size, o, none⟩ = _ := fun o => b2.cell (p := ⟨w.heap.size, o, none⟩) (by go_size); have kfb2_w0 : ∀ o, w2.frozen? ⟨w.heap.size, o, none⟩ = _ := fun o => b2.frozen (p := ⟨w.heap.size, o, none⟩) (by go_size); have zb2_w10 : w1.heap.size < w2.heap.size := (by omega); have kcb2_w10 : ∀ o, w2.cell? ⟨w1.heap.size, o, none⟩ = _ := fun o => b2.cell (p := ⟨w1.heap.size, o, none⟩) (by go_size); have kfb2_w10 : ∀ o, w2.frozen? ⟨w1.heap.size, o, none⟩ = _ := fun o => b2.frozen (p := ⟨w1.heap.size, o, none⟩) (by go_size); clear zzb2)
    all_goals go_wp2
    all_goals exact bodyPost_ret (v := .tuple #[.agg #[.int .i64 a, .int .i64 b], .bool true]) (by simp only [results, Tryz.results100]; go_simp) rfl ⟨rfl, (by repeat' (first | (with_reducible exact Below.refl _ _) | (with_reducible assumption) | (with_reducible refine below_drewN ?_ _) | (with_reducible refine Below.drew ?_) | (with_reducible refine Below.alloc ?_ ?_ _) | (with_reducible refine Below.setCell ?_ ?_ _) | (with_reducible refine Below.trans ?_ (Below.mono (by with_reducible assumption) ?_)) | go_size | (dsimp only; omega)))⟩
/-- what a text reads as -/
noncomputable def readM (l : List UInt8) : Bool := okP (parts 44 l) && decide ((numsP (parts 44 l)).length = 4) && isM ((numsP (parts 44 l)).getD 0 0) ((numsP (parts 44 l)).getD 1 0) ((numsP (parts 44 l)).getD 2 0) ((numsP (parts 44 l)).getD 3 0)
noncomputable def parseM (l : List UInt8) : Value := if readM l = true then .tuple #[.agg #[.int .i64 (((numsP (parts 44 l)).getD 0 0)), .int .i64 (((numsP (parts 44 l)).getD 1 0)), .int .i64 (((numsP (parts 44 l)).getD 2 0)), .int .i64 (((numsP (parts 44 l)).getD 3 0))], .int .i64 0] else .tuple #[.agg #[.int .i64 0, .int .i64 0, .int .i64 0, .int .i64 0], .int .i64 6]
set_option maxRecDepth 100000 in
set_option maxHeartbeats 4000000 in
theorem Mread_no (s : ByteArray) (w : World) (hs : s.size ≤ 4000000000) (h : readM s.data.toList = false) :
    Calls Tryz.prog 111 #[.string s] w fun e w' => e = .returned (.tuple #[.agg #[.int .i64 0, .int .i64 0, .int .i64 0, .int .i64 0], .bool false]) ∧ Below w.heap.size w w' := by
  have KN := Lib.hid (fun w => l01Numbers_c s 44 w hs)
  have hne : numsP (parts 44 s.data.toList) ≠ [] := by
    unfold numsP
    intro e
    exact parts_ne _ _ (List.map_eq_nil_iff.mp e)
  have H := Lib.hid h
  unfold readM at h
  generalize hps : parts 44 s.data.toList = ps at *
  cases ho : okP ps
  · have HO := Lib.hid ho
    clear h ho hps hne
    go_enter Tryz.func111, Tryz.ntmps111
    go_wp2_with fail
    refine (KN.out _).mono ?_
    rintro e w1 ⟨v, rfl, -, b1⟩
    rw [HO.out]
    have zzb1 := b1.size; (try simp at zzb1); have zb1_0 : w.heap.size < w1.heap.size := (by omega); have kcb1_0 : ∀ o, w1.cell? ⟨w.heap.size, o, none⟩ = _ := fun o => b1.cell (p := ⟨w.heap.size, o, none⟩) (by go_size); have kfb1_0 : ∀ o, w1.frozen? ⟨w.heap.size, o, none⟩ = _ := fun o => b1.frozen (p := ⟨w.heap.size, o, none⟩) (by go_size); clear zzb1
    go_wp2
    exact bodyPost_ret (v := .tuple #[.agg #[.int .i64 0, .int .i64 0, .int .i64 0, .int .i64 0], .bool false]) (by simp only [results, Tryz.results111]; go_simp) rfl ⟨rfl, (by repeat' (first | (with_reducible exact Below.refl _ _) | (with_reducible assumption) | (with_reducible refine below_drewN ?_ _) | (with_reducible refine Below.drew ?_) | (with_reducible refine Below.alloc ?_ ?_ _) | (with_reducible refine Below.setCell ?_ ?_ _) | (with_reducible refine Below.trans ?_ (Below.mono (by with_reducible assumption) ?_)) | go_size | (dsimp only; omega)))⟩
  · have HO := Lib.hid ho
    by_cases hl : (numsP ps).length = 4
    · obtain ⟨a, b, c, d, hz⟩ : ∃ a b c d : Int, numsP ps = [a, b, c, d] := by
        match hq : numsP ps, hl with
        | [x0, x1, x2, x3], _ => exact ⟨x0, x1, x2, x3, rfl⟩
      rw [hz] at h hne
      have hf : isM a b c d = false := by simpa [ho] using h
      have HF := Lib.hid hf
      have HZ := Lib.hid hz
      clear h ho hps hne hl hf hz
      go_enter Tryz.func111, Tryz.ntmps111
      go_wp2_with fail
      refine (KN.out _).mono ?_
      rintro e w1 ⟨v, rfl, hv, b1⟩
      have hv2 := hv.out HO.out
      rw [HO.out]
      rw [HZ.out] at hv2
      rcases hv2 with ⟨h, _⟩ | ⟨g, cg, rfl, hg0, hg1, hg2, -⟩
      · cases h
      have HR := Lib.hid hg2
      have zzb1 := b1.size; (try simp at zzb1); have zb1_0 : w.heap.size < w1.heap.size := (by omega); have kcb1_0 : ∀ o, w1.cell? ⟨w.heap.size, o, none⟩ = _ := fun o => b1.cell (p := ⟨w.heap.size, o, none⟩) (by go_size); have kfb1_0 : ∀ o, w1.frozen? ⟨w.heap.size, o, none⟩ = _ := fun o => b1.frozen (p := ⟨w.heap.size, o, none⟩) (by go_size); clear zzb1
      have q0 : w1.cell? ⟨g, 0, none⟩ = some (.int .i64 a) := by have := HR.out 0 (by simp); simpa using this
      have q1 : w1.cell? ⟨g, 1, none⟩ = some (.int .i64 b) := by have := HR.out 1 (by simp); simpa using this
      have q2 : w1.cell? ⟨g, 2, none⟩ = some (.int .i64 c) := by have := HR.out 2 (by simp); simpa using this
      have q3 : w1.cell? ⟨g, 3, none⟩ = some (.int .i64 d) := by have := HR.out 3 (by simp); simpa using this
      have o0 : w1.cell? ⟨w.heap.size, 0, none⟩ = some (.int .i64 0) := by rw [kcb1_0]; go_simp
      have o1 : w1.cell? ⟨w.heap.size, 1, none⟩ = some (.int .i64 0) := by rw [kcb1_0]; go_simp
      have o2 : w1.cell? ⟨w.heap.size, 2, none⟩ = some (.int .i64 0) := by rw [kcb1_0]; go_simp
      have o3 : w1.cell? ⟨w.heap.size, 3, none⟩ = some (.int .i64 0) := by rw [kcb1_0]; go_simp
      have of : ∀ i, w1.frozen? ⟨w.heap.size, i, none⟩ = false := by intro i; rw [kfb1_0]; go_simp
      have hB1 : Below w.heap.size w w1 := (by repeat' (first | (with_reducible exact Below.refl _ _) | (with_reducible assumption) | (with_reducible refine below_drewN ?_ _) | (with_reducible refine Below.drew ?_) | (with_reducible refine Below.alloc ?_ ?_ _) | (with_reducible refine Below.setCell ?_ ?_ _) | (with_reducible refine Below.trans ?_ (Below.mono (by with_reducible assumption) ?_)) | go_size | (dsimp only; omega)))
      have hgw : w.heap.size < g := by simp at hg0; omega
      clear hg2 hv b1 kcb1_0 kfb1_0 HR
      rw [show ([a, b, c, d] : List Int).length = 4 from rfl]
      go_wp2
      go_region_held3 (fun w' => w'.cell? ⟨g, 0, none⟩ = some (.int .i64 a) ∧ w'.cell? ⟨g, 1, none⟩ = some (.int .i64 b) ∧ w'.cell? ⟨g, 2, none⟩ = some (.int .i64 c) ∧ w'.cell? ⟨g, 3, none⟩ = some (.int .i64 d)) (first | go_keep | (go_split_ands; refine ⟨?_, ?_, ?_, ?_⟩ <;> first | (with_reducible assumption) | (with_reducible exact keep_alloc (by with_reducible assumption) (by dsimp only; omega)) | (with_reducible exact keep_new (by with_reducible assumption)))) (fail)
      all_goals (try go_split_ands)
      all_goals (go_wp2_with fail; refine (l01Is_c _ _ _ _ _).mono ?_; rintro e w2 ⟨rfl, b2⟩; rw [HF.out])
      all_goals (have zzb2 := b2.size; (try simp at zzb2); have zb2_0 : w.heap.size < w2.heap.size := (by omega); have kcb2_0 : ∀ o, w2.cell? ⟨w.heap.size, o, none⟩ = _ := fun o => b2.cell (p := ⟨w.heap.size, o, none⟩) (by go_size); have kfb2_0 : ∀ o, w2.frozen? ⟨w.heap.size, o, none⟩ = _ := fun o => b2.frozen (p := ⟨w.heap.size, o, none⟩) (by go_size); clear zzb2)
      all_goals go_wp2
      all_goals exact bodyPost_ret (v := .tuple #[.agg #[.int .i64 0, .int .i64 0, .int .i64 0, .int .i64 0], .bool false]) (by simp only [results, Tryz.results111]; go_simp) rfl ⟨rfl, (by repeat' (first | (with_reducible exact Below.refl _ _) | (with_reducible assumption) | (with_reducible refine below_drewN ?_ _) | (with_reducible refine Below.drew ?_) | (with_reducible refine Below.alloc ?_ ?_ _) | (with_reducible refine Below.setCell ?_ ?_ _) | (with_reducible refine Below.trans ?_ (Below.mono (by with_reducible assumption) ?_)) | go_size | (dsimp only; omega)))⟩
    · have hl' : ¬ (((numsP ps).length : Int) = 4) := by omega
      have hl2 : (((numsP ps).length : Int) == 4) = false := by simpa using hl'
      have hl3 : (((numsP ps).length : Int) != 4) = true := by simpa using hl'
      clear h ho hps hl
      go_enter Tryz.func111, Tryz.ntmps111
      go_wp2_with fail
      refine (KN.out _).mono ?_
      rintro e w1 ⟨v, rfl, hv, b1⟩
      have hv2 := hv.out HO.out
      rw [HO.out]
      rcases hv2 with ⟨h, _⟩ | ⟨g, cg, rfl, hg0, hg1, hg2, -⟩
      · exact absurd h hne
      clear hg2 hv
      have zzb1 := b1.size; (try simp at zzb1); have zb1_0 : w.heap.size < w1.heap.size := (by omega); have kcb1_0 : ∀ o, w1.cell? ⟨w.heap.size, o, none⟩ = _ := fun o => b1.cell (p := ⟨w.heap.size, o, none⟩) (by go_size); have kfb1_0 : ∀ o, w1.frozen? ⟨w.heap.size, o, none⟩ = _ := fun o => b1.frozen (p := ⟨w.heap.size, o, none⟩) (by go_size); clear zzb1
      go_wp2
      exact bodyPost_ret (v := .tuple #[.agg #[.int .i64 0, .int .i64 0, .int .i64 0, .int .i64 0], .bool false]) (by simp only [results, Tryz.results111]; go_simp) rfl ⟨rfl, (by repeat' (first | (with_reducible exact Below.refl _ _) | (with_reducible assumption) | (with_reducible refine below_drewN ?_ _) | (with_reducible refine Below.drew ?_) | (with_reducible refine Below.alloc ?_ ?_ _) | (with_reducible refine Below.setCell ?_ ?_ _) | (with_reducible refine Below.trans ?_ (Below.mono (by with_reducible assumption) ?_)) | go_size | (dsimp only; omega)))⟩
set_option maxRecDepth 100000 in
set_option maxHeartbeats 4000000 in
theorem Mread_yes (s : ByteArray) (a b c d : Int) (w : World) (hs : s.size ≤ 4000000000) (ho : okP (parts 44 s.data.toList) = true) (hz : numsP (parts 44 s.data.toList) = [a, b, c, d]) (hf : isM a b c d = true) :
    Calls Tryz.prog 111 #[.string s] w fun e w' => e = .returned (.tuple #[.agg #[.int .i64 a, .int .i64 b, .int .i64 c, .int .i64 d], .bool true]) ∧ Below w.heap.size w w' := by
  have KN := Lib.hid (fun w => l01Numbers_c s 44 w hs)
  have HO := Lib.hid ho
  have HZ := Lib.hid hz
  have HF := Lib.hid hf
  clear ho hz hf
  go_enter Tryz.func111, Tryz.ntmps111
  go_wp2_with fail
  refine (KN.out _).mono ?_
  rintro e w1 ⟨v, rfl, hv, b1⟩
  have hv2 := hv.out HO.out
  rw [HO.out]
  rw [HZ.out] at hv2
  rcases hv2 with ⟨h, _⟩ | ⟨g, cg, rfl, hg0, hg1, hg2, -⟩
  · cases h
  · have HR := Lib.hid hg2
    have zzb1 := b1.size; (try simp at zzb1); have zb1_0 : w.heap.size < w1.heap.size := (by omega); have kcb1_0 : ∀ o, w1.cell? ⟨w.heap.size, o, none⟩ = _ := fun o => b1.cell (p := ⟨w.heap.size, o, none⟩) (by go_size); have kfb1_0 : ∀ o, w1.frozen? ⟨w.heap.size, o, none⟩ = _ := fun o => b1.frozen (p := ⟨w.heap.size, o, none⟩) (by go_size); clear zzb1
    have q0 : w1.cell? ⟨g, 0, none⟩ = some (.int .i64 a) := by have := HR.out 0 (by simp); simpa using this
    have q1 : w1.cell? ⟨g, 1, none⟩ = some (.int .i64 b) := by have := HR.out 1 (by simp); simpa using this
    have q2 : w1.cell? ⟨g, 2, none⟩ = some (.int .i64 c) := by have := HR.out 2 (by simp); simpa using this
    have q3 : w1.cell? ⟨g, 3, none⟩ = some (.int .i64 d) := by have := HR.out 3 (by simp); simpa using this
    have o0 : w1.cell? ⟨w.heap.size, 0, none⟩ = some (.int .i64 0) := by rw [kcb1_0]; go_simp
    have o1 : w1.cell? ⟨w.heap.size, 1, none⟩ = some (.int .i64 0) := by rw [kcb1_0]; go_simp
    have o2 : w1.cell? ⟨w.heap.size, 2, none⟩ = some (.int .i64 0) := by rw [kcb1_0]; go_simp
    have o3 : w1.cell? ⟨w.heap.size, 3, none⟩ = some (.int .i64 0) := by rw [kcb1_0]; go_simp
    have of : ∀ i, w1.frozen? ⟨w.heap.size, i, none⟩ = false := by intro i; rw [kfb1_0]; go_simp
    have hB1 : Below w.heap.size w w1 := (by repeat' (first | (with_reducible exact Below.refl _ _) | (with_reducible assumption) | (with_reducible refine below_drewN ?_ _) | (with_reducible refine Below.drew ?_) | (with_reducible refine Below.alloc ?_ ?_ _) | (with_reducible refine Below.setCell ?_ ?_ _) | (with_reducible refine Below.trans ?_ (Below.mono (by with_reducible assumption) ?_)) | go_size | (dsimp only; omega)))
    have hgw : w.heap.size < g := by simp at hg0; omega
    clear hg2 hv b1 kcb1_0 kfb1_0 HR
    rw [show ([a, b, c, d] : List Int).length = 4 from rfl]
    go_wp2
    go_region_held3 (fun w' => w'.cell? ⟨g, 0, none⟩ = some (.int .i64 a) ∧ w'.cell? ⟨g, 1, none⟩ = some (.int .i64 b) ∧ w'.cell? ⟨g, 2, none⟩ = some (.int .i64 c) ∧ w'.cell? ⟨g, 3, none⟩ = some (.int .i64 d)) (first | go_keep | (go_split_ands; refine ⟨?_, ?_, ?_, ?_⟩ <;> first | (with_reducible assumption) | (with_reducible exact keep_alloc (by with_reducible assumption) (by dsimp only; omega)) | (with_reducible exact keep_new (by with_reducible assumption)))) (fail)
    all_goals (try go_split_ands)
    all_goals (go_wp2_with fail; refine (l01Is_c _ _ _ _ _).mono ?_; rintro e w2 ⟨rfl, b2⟩; rw [HF.out])
    all_goals (have zzb2 := b2.size; (try simp at zzb2); have zb2_w0 : w.heap.size < w2.heap.size := (by omega); have kcb2_w0 : ∀ o, w2.cell? ⟨w.heap.size, o, none⟩ = _ := fun o => b2.cell (p := ⟨w.heap.size, o, none⟩) (by go_size); have kfb2_w0 : ∀ o, w2.frozen? ⟨w.heap.size, o, none⟩ = _ := fun o => b2.frozen (p := ⟨w.heap.size, o, none⟩) (by go_size); have zb2_w10 : w1.heap.size < w2.heap.size := (by omega); have kcb2_w10 : ∀ o, w2.cell? ⟨w1.heap.size, o, none⟩ = _ := fun o => b2.cell (p := ⟨w1.heap.size, o, none⟩) (by go_size); have kfb2_w10 : ∀ o, w2.frozen? ⟨w1.heap.size, o, none⟩ = _ := fun o => b2.frozen (p := ⟨w1.heap.size, o, none⟩) (by go_size); clear zzb2)
    all_goals go_wp2
    all_goals exact bodyPost_ret (v := .tuple #[.agg #[.int .i64 a, .int .i64 b, .int .i64 c, .int .i64 d], .bool true]) (by simp only [results, Tryz.results111]; go_simp) rfl ⟨rfl, (by repeat' (first | (with_reducible exact Below.refl _ _) | (with_reducible assumption) | (with_reducible refine below_drewN ?_ _) | (with_reducible refine Below.drew ?_) | (with_reducible refine Below.alloc ?_ ?_ _) | (with_reducible refine Below.setCell ?_ ?_ _) | (with_reducible refine Below.trans ?_ (Below.mono (by with_reducible assumption) ?_)) | go_size | (dsimp only; omega)))⟩
theorem sParseFraction_c (s : ByteArray) (w : World) (hs : s.size ≤ 4000000000) :
    Calls Tryz.prog 35 #[.string s] w fun e w' => e = .returned (parseF s.data.toList) ∧ Below w.heap.size w w' := by
  cases h : readF s.data.toList
  · unfold parseF
    rw [if_neg (by rw [h]; simp)]
    have H := Lib.hid h
    clear h
    go_enter Tryz.func35, Tryz.ntmps35
    go_wp2_with fail
    refine (Fread_no s _ hs H.out).mono ?_
    rintro e w1 ⟨rfl, b1⟩
    have zzb1 := b1.size; (try simp at zzb1); have zb1_0 : w.heap.size < w1.heap.size := (by omega); have kcb1_0 : ∀ o, w1.cell? ⟨w.heap.size, o, none⟩ = _ := fun o => b1.cell (p := ⟨w.heap.size, o, none⟩) (by go_size); have kfb1_0 : ∀ o, w1.frozen? ⟨w.heap.size, o, none⟩ = _ := fun o => b1.frozen (p := ⟨w.heap.size, o, none⟩) (by go_size); clear zzb1
    go_wp2
    exact bodyPost_ret (v := .tuple #[.agg #[.int .i64 0, .int .i64 0], .int .i64 6]) (by simp only [results, Tryz.results35]; go_simp) rfl ⟨rfl, (by repeat' (first | (with_reducible exact Below.refl _ _) | (with_reducible assumption) | (with_reducible refine below_drewN ?_ _) | (with_reducible refine Below.drew ?_) | (with_reducible refine Below.alloc ?_ ?_ _) | (with_reducible refine Below.setCell ?_ ?_ _) | (with_reducible refine Below.trans ?_ (Below.mono (by with_reducible assumption) ?_)) | go_size | (dsimp only; omega)))⟩
  · unfold parseF
    rw [if_pos h]
    unfold readF at h
    rw [Bool.and_eq_true, Bool.and_eq_true] at h
    obtain ⟨⟨ho, hl⟩, hf⟩ := h
    have hl : (numsP (parts 47 s.data.toList)).length = 2 := by simpa using hl
    obtain ⟨a, b, hz⟩ : ∃ a b : Int, numsP (parts 47 s.data.toList) = [a, b] := by
      match hq : numsP (parts 47 s.data.toList), hl with
      | [x0, x1], _ => exact ⟨x0, x1, rfl⟩
    rw [hz] at hf ⊢
    have K := Lib.hid (fun w => Fread_yes s a b w hs ho hz hf)
    show Calls Tryz.prog 35 #[.string s] w fun e w' => e = .returned (.tuple #[.agg #[.int .i64 a, .int .i64 b], .int .i64 0]) ∧ Below w.heap.size w w'
    clear ho hl hf hz
    go_enter Tryz.func35, Tryz.ntmps35
    go_wp2_with fail
    refine (K.out _).mono ?_
    rintro e w1 ⟨rfl, b1⟩
    have zzb1 := b1.size; (try simp at zzb1); have zb1_0 : w.heap.size < w1.heap.size := (by omega); have kcb1_0 : ∀ o, w1.cell? ⟨w.heap.size, o, none⟩ = _ := fun o => b1.cell (p := ⟨w.heap.size, o, none⟩) (by go_size); have kfb1_0 : ∀ o, w1.frozen? ⟨w.heap.size, o, none⟩ = _ := fun o => b1.frozen (p := ⟨w.heap.size, o, none⟩) (by go_size); clear zzb1
    go_wp2
    exact bodyPost_ret (v := .tuple #[.agg #[.int .i64 a, .int .i64 b], .int .i64 0]) (by simp only [results, Tryz.results35]; go_simp) rfl ⟨rfl, (by repeat' (first | (with_reducible exact Below.refl _ _) | (with_reducible assumption) | (with_reducible refine below_drewN ?_ _) | (with_reducible refine Below.drew ?_) | (with_reducible refine Below.alloc ?_ ?_ _) | (with_reducible refine Below.setCell ?_ ?_ _) | (with_reducible refine Below.trans ?_ (Below.mono (by with_reducible assumption) ?_)) | go_size | (dsimp only; omega)))⟩
theorem sParseMatrix_c (s : ByteArray) (w : World) (hs : s.size ≤ 4000000000) :
    Calls Tryz.prog 59 #[.string s] w fun e w' => e = .returned (parseM s.data.toList) ∧ Below w.heap.size w w' := by
  cases h : readM s.data.toList
  · unfold parseM
    rw [if_neg (by rw [h]; simp)]
    have H := Lib.hid h
    clear h
    go_enter Tryz.func59, Tryz.ntmps59
    go_wp2_with fail
    refine (Mread_no s _ hs H.out).mono ?_
    rintro e w1 ⟨rfl, b1⟩
    have zzb1 := b1.size; (try simp at zzb1); have zb1_0 : w.heap.size < w1.heap.size := (by omega); have kcb1_0 : ∀ o, w1.cell? ⟨w.heap.size, o, none⟩ = _ := fun o => b1.cell (p := ⟨w.heap.size, o, none⟩) (by go_size); have kfb1_0 : ∀ o, w1.frozen? ⟨w.heap.size, o, none⟩ = _ := fun o => b1.frozen (p := ⟨w.heap.size, o, none⟩) (by go_size); clear zzb1
    go_wp2
    exact bodyPost_ret (v := .tuple #[.agg #[.int .i64 0, .int .i64 0, .int .i64 0, .int .i64 0], .int .i64 6]) (by simp only [results, Tryz.results59]; go_simp) rfl ⟨rfl, (by repeat' (first | (with_reducible exact Below.refl _ _) | (with_reducible assumption) | (with_reducible refine below_drewN ?_ _) | (with_reducible refine Below.drew ?_) | (with_reducible refine Below.alloc ?_ ?_ _) | (with_reducible refine Below.setCell ?_ ?_ _) | (with_reducible refine Below.trans ?_ (Below.mono (by with_reducible assumption) ?_)) | go_size | (dsimp only; omega)))⟩
  · unfold parseM
    rw [if_pos h]
    unfold readM at h
    rw [Bool.and_eq_true, Bool.and_eq_true] at h
    obtain ⟨⟨ho, hl⟩, hf⟩ := h
    have hl : (numsP (parts 44 s.data.toList)).length = 4 := by simpa using hl
    obtain ⟨a, b, c, d, hz⟩ : ∃ a b c d : Int, numsP (parts 44 s.data.toList) = [a, b, c, d] := by
      match hq : numsP (parts 44 s.data.toList), hl with
      | [x0, x1, x2, x3], _ => exact ⟨x0, x1, x2, x3, rfl⟩
    rw [hz] at hf ⊢
    have K := Lib.hid (fun w => Mread_yes s a b c d w hs ho hz hf)
    show Calls Tryz.prog 59 #[.string s] w fun e w' => e = .returned (.tuple #[.agg #[.int .i64 a, .int .i64 b, .int .i64 c, .int .i64 d], .int .i64 0]) ∧ Below w.heap.size w w'
    clear ho hl hf hz
    go_enter Tryz.func59, Tryz.ntmps59
    go_wp2_with fail
    refine (K.out _).mono ?_
    rintro e w1 ⟨rfl, b1⟩
    have zzb1 := b1.size; (try simp at zzb1); have zb1_0 : w.heap.size < w1.heap.size := (by omega); have kcb1_0 : ∀ o, w1.cell? ⟨w.heap.size, o, none⟩ = _ := fun o => b1.cell (p := ⟨w.heap.size, o, none⟩) (by go_size); have kfb1_0 : ∀ o, w1.frozen? ⟨w.heap.size, o, none⟩ = _ := fun o => b1.frozen (p := ⟨w.heap.size, o, none⟩) (by go_size); clear zzb1
    go_wp2
    exact bodyPost_ret (v := .tuple #[.agg #[.int .i64 a, .int .i64 b, .int .i64 c, .int .i64 d], .int .i64 0]) (by simp only [results, Tryz.results59]; go_simp) rfl ⟨rfl, (by repeat' (first | (with_reducible exact Below.refl _ _) | (with_reducible assumption) | (with_reducible refine below_drewN ?_ _) | (with_reducible refine Below.drew ?_) | (with_reducible refine Below.alloc ?_ ?_ _) | (with_reducible refine Below.setCell ?_ ?_ _) | (with_reducible refine Below.trans ?_ (Below.mono (by with_reducible assumption) ?_)) | go_size | (dsimp only; omega)))⟩
end Go.Proofs.YtlkhhpckgcdeeaaGreatDoor
