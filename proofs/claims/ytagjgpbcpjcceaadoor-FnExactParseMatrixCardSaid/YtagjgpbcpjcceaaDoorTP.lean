/- Numerals and their parts, in plain Lean. -/
import Derived.Lib.ItoaNum
import Derived.Lib.ItoaLen
import Derived.Lib.Join
import Derived.Lib.ParseIntB
import Derived.Lib.Split
import Derived.Lib.IndexBytes
import Derived.Test.YtagjgpbcpjcceaaDoorProg
namespace Go.Proofs.YtagjgpbcpjcceaaDoor
set_option linter.unusedVariables false
set_option linter.unusedSimpArgs false
/-- what digits spell -/
def dstep (a : Nat) (c : UInt8) : Nat := a * 10 + (c.toNat - 48)
def dval (acc : Nat) (l : List UInt8) : Nat := l.foldl dstep acc
theorem dval_nil (acc : Nat) : dval acc [] = acc := rfl
theorem dval_cons (acc : Nat) (c : UInt8) (r : List UInt8) : dval acc (c :: r) = dval (acc * 10 + (c.toNat - 48)) r := by
  unfold dval
  rw [List.foldl_cons]
  rfl
def digit (c : UInt8) : Bool := decide (48 ≤ c.toNat) && decide (c.toNat ≤ 57)
theorem digit_iff {c : UInt8} : digit c = true ↔ (48 ≤ c.toNat ∧ c.toNat ≤ 57) := by simp [digit]
theorem val_snoc (l : List UInt8) (c : UInt8) : ∀ acc, dval acc (l ++ [c]) = dval acc l * 10 + (c.toNat - 48) := by
  induction l with
  | nil => intro acc; rfl
  | cons x l ih => intro acc; exact ih _
theorem val_ge (l : List UInt8) : ∀ acc, acc ≤ dval acc l := by
  induction l with
  | nil => intro acc; exact Nat.le_refl _
  | cons x l ih => intro acc; have := ih (acc * 10 + (x.toNat - 48)); rw [dval_cons]; omega
theorem dec_small' {u : Nat} (h : u < 10) : Lib.decDigits u = [UInt8.ofNat (48 + u)] := Lib.decDigits_one h
theorem dec_big' {u : Nat} (h : ¬ u < 10) : Lib.decDigits u = Lib.decDigits (u / 10) ++ [UInt8.ofNat (48 + u % 10)] := by rw [Lib.decDigits, dif_neg h]
theorem ofNat_back {c : UInt8} (h : 48 ≤ c.toNat) : UInt8.ofNat (48 + (c.toNat - 48)) = c := by
  rw [show 48 + (c.toNat - 48) = c.toNat by omega]; simp
theorem toNat_digit {d : Nat} (h : d < 10) : (UInt8.ofNat (48 + d)).toNat = 48 + d := by simp [UInt8.toNat_ofNat']; omega
/-- a numeral without leading zeros -/
structure Canon (l : List UInt8) : Prop where
  ne : l ≠ []
  dig : l.all digit = true
  head : 1 < l.length → l.head? ≠ some 48
theorem canon_dec : ∀ n : Nat, ∀ l : List UInt8, l.length ≤ n → Canon l → Lib.decDigits (dval 0 l) = l := by
  intro n
  induction n with
  | zero => intro l hn h; exact absurd (List.length_eq_zero_iff.mp (by omega)) h.ne
  | succ n ih =>
    intro l hn h
    obtain ⟨l', c, rfl⟩ : ∃ l' c, l = l' ++ [c] := ⟨l.dropLast, l.getLast h.ne, (List.dropLast_concat_getLast h.ne).symm⟩
    have hd := h.dig
    rw [List.all_append, Bool.and_eq_true] at hd
    have hc : 48 ≤ c.toNat ∧ c.toNat ≤ 57 := by simpa [digit] using hd.2
    rw [val_snoc]
    cases l' with
    | nil =>
      have : dval 0 [] * 10 + (c.toNat - 48) = c.toNat - 48 := by rw [dval_nil]; omega
      rw [this, dec_small' (by omega), ofNat_back hc.1]
      rfl
    | cons x t =>
      have hx : x ≠ 48 := by
        have := h.head (by simp)
        simpa using this
      have hx' : 48 ≤ x.toNat ∧ x.toNat ≤ 57 := by
        have := hd.1
        simp only [List.all_cons, Bool.and_eq_true] at this
        exact digit_iff.mp this.1
      have hx2 : x.toNat ≠ 48 := fun e => hx (UInt8.toNat_inj.mp (by simpa using e))
      have hcan : Canon (x :: t) := ⟨by simp, hd.1, fun _ => by simpa using hx⟩
      have hi := ih (x :: t) (by simp at hn ⊢; omega) hcan
      have hpos : 1 ≤ dval 0 (x :: t) := by
        have := val_ge t (0 * 10 + (x.toNat - 48))
        rw [dval_cons]
        omega
      generalize dval 0 (x :: t) = v at *
      have hv : ¬ v * 10 + (c.toNat - 48) < 10 := by omega
      rw [dec_big' hv, show (v * 10 + (c.toNat - 48)) / 10 = v by omega, show (v * 10 + (c.toNat - 48)) % 10 = c.toNat - 48 by omega, hi, ofNat_back hc.1]
theorem dec_canon : ∀ n u : Nat, u ≤ n → Canon (Lib.decDigits u) ∧ dval 0 (Lib.decDigits u) = u ∧ (1 ≤ u → (Lib.decDigits u).head? ≠ some 48) := by
  have small : ∀ u, u < 10 → Canon (Lib.decDigits u) ∧ dval 0 (Lib.decDigits u) = u ∧ (1 ≤ u → (Lib.decDigits u).head? ≠ some 48) := by
    intro u h
    rw [dec_small' h]
    have ht := toNat_digit h
    refine ⟨⟨by simp, by simp [digit, ht]; omega, by simp⟩, by rw [dval_cons, dval_nil, ht]; omega, fun h1 => ?_⟩
    intro e
    have : UInt8.ofNat (48 + u) = 48 := by simpa using e
    rw [this] at ht
    have : (48 : UInt8).toNat = 48 := rfl
    omega
  intro n
  induction n with
  | zero => intro u hu; exact small u (by omega)
  | succ n ih =>
    intro u hu
    by_cases h : u < 10
    · exact small u h
    · obtain ⟨h1, h2, h3⟩ := ih (u / 10) (by omega)
      have h4 := h3 (by omega)
      have ht := toNat_digit (d := u % 10) (by omega)
      rw [dec_big' h]
      have hh : (Lib.decDigits (u / 10) ++ [UInt8.ofNat (48 + u % 10)]).head? = (Lib.decDigits (u / 10)).head? := by
        cases hd : Lib.decDigits (u / 10) with
        | nil => exact absurd hd h1.ne
        | cons x t => rfl
      refine ⟨⟨by simp, ?_, fun _ => by rw [hh]; exact h4⟩, by rw [val_snoc, h2, ht]; omega, fun _ => by rw [hh]; exact h4⟩
      rw [List.all_append, h1.dig]
      simp [digit, ht]; omega
theorem parse_mag (l : List UInt8) : ∀ acc, l.all digit = true → dval acc l ≤ 18446744073709551615 → Lib.parseUintM 18446744073709551615 acc l = .ok (dval acc l) := by
  induction l with
  | nil => intro acc _ _; rfl
  | cons c r ih =>
    intro acc hd hv
    simp only [List.all_cons, Bool.and_eq_true] at hd
    have hc := digit_iff.mp hd.1
    rw [dval_cons] at hv ⊢
    have hg := val_ge r (acc * 10 + (c.toNat - 48))
    rw [Lib.parseUintM, if_pos hc, if_neg (by omega), if_neg (by omega)]
    exact ih _ hd.2 hv
theorem parse_itoa {z : Int} (h0 : -1000000000 ≤ z) (h1 : z ≤ 1000000000) : Lib.parseIntB 64 (Lib.itoa z) = .ok z := by
  have key : ∀ u : Nat, u ≤ 1000000000 → Lib.parseUintB 64 (Lib.decDigits u) = .ok u := by
    intro u hu
    obtain ⟨c1, c2, -⟩ := dec_canon u u (Nat.le_refl _)
    unfold Lib.parseUintB
    rw [if_neg c1.ne]
    have := parse_mag (Lib.decDigits u) 0 c1.dig (by omega)
    rw [c2] at this
    exact this
  by_cases hz : z < 0
  · have hi : Lib.itoa z = 45 :: Lib.decDigits z.natAbs := by unfold Lib.itoa; rw [if_pos hz]
    rw [hi]
    unfold Lib.parseIntB
    have e1 : (45 : UInt8).toNat = 45 := rfl
    simp only [e1]
    rw [if_pos (by decide), key _ (by omega)]
    simp only [not_true_eq_false, false_and, if_false, true_and, if_true]
    rw [if_neg (by omega)]
    congr 1
    omega
  · have hi : Lib.itoa z = Lib.decDigits z.toNat := by unfold Lib.itoa; rw [if_neg hz]
    rw [hi]
    obtain ⟨c1, c2, -⟩ := dec_canon z.toNat z.toNat (Nat.le_refl _)
    have hk := key z.toNat (by omega)
    cases hd : Lib.decDigits z.toNat with
    | nil => exact absurd hd c1.ne
    | cons c r =>
      rw [hd] at hk
      have hdig := c1.dig
      rw [hd] at hdig
      simp only [List.all_cons, Bool.and_eq_true] at hdig
      have hc := digit_iff.mp hdig.1
      unfold Lib.parseIntB
      simp only
      rw [if_neg (by omega), hk]
      have : ¬ c.toNat = 45 := by omega
      simp only [this, not_false_eq_true, true_and, if_false, false_and]
      rw [if_neg (by omega)]
      congr 1
      omega
/-- a text cut at a byte -/
def parts (y : UInt8) : List UInt8 → List (List UInt8)
  | [] => [[]]
  | x :: l => if x = y then [] :: parts y l else match parts y l with
    | [] => [[x]]
    | h :: t => (x :: h) :: t
theorem parts_ne (y : UInt8) (l : List UInt8) : parts y l ≠ [] := by
  cases l with
  | nil => simp [parts]
  | cons x l =>
    unfold parts
    split
    · simp
    · split <;> simp
theorem parts_none {y : UInt8} {w : List UInt8} (h : y ∉ w) : parts y w = [w] := by
  induction w with
  | nil => rfl
  | cons x w ih =>
    have hx : x ≠ y := fun e => h (by simp [e])
    rw [parts, if_neg hx, ih (fun e => h (by simp [e]))]
theorem parts_cut {y : UInt8} {w : List UInt8} (h : y ∉ w) (r : List UInt8) : parts y (w ++ y :: r) = w :: parts y r := by
  induction w with
  | nil => rw [List.nil_append, parts, if_pos rfl]
  | cons x w ih =>
    have hx : x ≠ y := fun e => h (by simp [e])
    rw [List.cons_append, parts, if_neg hx, ih (fun e => h (by simp [e]))]
theorem join_cut (w : List UInt8) (y : UInt8) (v : List UInt8) (r : List (List UInt8)) : Lib.join (w :: v :: r) [y] = w ++ y :: Lib.join (v :: r) [y] := by
  rw [Lib.join_cons, Lib.join_cons]
  simp [Lib.joinTail]
theorem join_parts (y : UInt8) (l : List UInt8) : Lib.join (parts y l) [y] = l := by
  induction l with
  | nil => rw [parts, Lib.join_one]
  | cons x l ih =>
    unfold parts
    cases hp : parts y l with
    | nil => exact absurd hp (parts_ne y l)
    | cons h t =>
      rw [hp] at ih
      split
      · rename_i e
        subst e
        rw [join_cut, ih]; rfl
      · rw [Lib.join_cons] at ih ⊢
        rw [List.cons_append, ih]
theorem parts_join {y : UInt8} (w : List UInt8) (r : List (List UInt8)) (h : ∀ v ∈ w :: r, y ∉ v) : parts y (Lib.join (w :: r) [y]) = w :: r := by
  induction r generalizing w with
  | nil => rw [Lib.join_one]; exact parts_none (h w (by simp))
  | cons v r ih => rw [join_cut, parts_cut (h w (by simp)), ih v (fun u hu => h u (by simp [List.mem_cons.mp hu]))]
theorem indexByte_none {l : List UInt8} {y : UInt8} (h : Lib.indexByte l y = -1) : y ∉ l := by
  induction l with
  | nil => simp
  | cons x l ih =>
    unfold Lib.indexByte at h
    split at h
    · omega
    · rename_i hx
      split at h
      · rename_i hl
        intro hm
        rcases List.mem_cons.mp hm with e | hm
        · exact hx (by simp [e])
        · exact ih (by simpa using hl) hm
      · rename_i hl
        have h2 : Lib.indexByte l y ≠ -1 := by simpa using hl
        have h3 := Lib.index_ge l [y]
        rw [Lib.index_one] at h3
        omega
theorem indexByte_some {l : List UInt8} {y : UInt8} : ∀ {i : Nat}, Lib.indexByte l y = i → y ∉ l.take i ∧ l = l.take i ++ y :: l.drop (i + 1) := by
  induction l with
  | nil =>
    intro i h
    have : (-1 : Int) = i := h
    omega
  | cons x l ih =>
    intro i h
    unfold Lib.indexByte at h
    split at h
    · rename_i hx
      obtain rfl : i = 0 := by omega
      have : x = y := by simpa using hx
      subst this
      simp
    · rename_i hx
      have hxy : x ≠ y := by simpa using hx
      split at h
      · omega
      · have h0 := Lib.index_ge l [y]
        rw [Lib.index_one] at h0
        rename_i hl
        have h9 : Lib.indexByte l y ≠ -1 := by simpa using hl
        obtain ⟨j, rfl⟩ : ∃ j, i = j + 1 := ⟨i - 1, by omega⟩
        obtain ⟨h1, h2⟩ := ih (i := j) (by omega)
        refine ⟨?_, ?_⟩
        · rw [List.take_succ_cons]
          intro hm
          rcases List.mem_cons.mp hm with e | hm
          · exact hxy e.symm
          · exact h1 hm
        · rw [List.take_succ_cons, List.drop_succ_cons, List.cons_append, ← h2]
theorem splitK_parts (y : UInt8) : ∀ (k : Nat) (l : List UInt8), ((parts y l).length ≤ k + 1 → Lib.splitK [y] 0 k l = parts y l) ∧ (k + 1 < (parts y l).length → (Lib.splitK [y] 0 k l).length = k + 1) := by
  intro k
  induction k with
  | zero =>
    intro l
    refine ⟨fun h => ?_, fun _ => rfl⟩
    cases hp : parts y l with
    | nil => exact absurd hp (parts_ne y l)
    | cons w t =>
      rw [hp] at h
      have ht : t = [] := List.length_eq_zero_iff.mp (by simp only [List.length_cons] at h; omega)
      subst ht
      have := join_parts y l
      rw [hp, Lib.join_one] at this
      rw [this]; rfl
  | succ k ih =>
    intro l
    unfold Lib.splitK
    rw [Lib.index_one]
    by_cases hi : Lib.indexByte l y = -1
    · rw [if_pos (by simpa using hi), parts_none (indexByte_none hi)]
      exact ⟨fun _ => rfl, fun h => by simp at h⟩
    · rw [if_neg (by simpa using hi)]
      obtain ⟨i, hi2⟩ : ∃ i : Nat, Lib.indexByte l y = i := by
        have := Lib.index_ge l [y]
        rw [Lib.index_one] at this
        exact ⟨(Lib.indexByte l y).toNat, by omega⟩
      obtain ⟨h1, h2⟩ := indexByte_some hi2
      have hp : parts y l = l.take i :: parts y (l.drop (i + 1)) := by
        conv => lhs; rw [h2]
        exact parts_cut h1 _
      obtain ⟨i1, i2⟩ := ih (l.drop (i + 1))
      rw [hi2, hp]
      have e1 : ((i : Int).toNat + 0) = i := by omega
      have e2 : ((i : Int).toNat + [y].length) = i + 1 := by simp
      rw [e1, e2]
      refine ⟨fun h => by rw [i1 (by simp only [List.length_cons] at h; omega)], fun h => by have := i2 (by simp only [List.length_cons] at h; omega); simp [this]⟩
end Go.Proofs.YtagjgpbcpjcceaaDoor
