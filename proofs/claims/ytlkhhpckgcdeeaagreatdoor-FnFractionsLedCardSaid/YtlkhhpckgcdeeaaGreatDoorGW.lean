/- The numbers that the source hands out: a run of multiples of three ends. Plain Lean. -/
import Derived.Test.YtlkhhpckgcdeeaaGreatDoorK
import Derived.Test.YtlkhhpckgcdeeaaGreatDoorGD
import Derived.Laws.IdiomStrings
namespace Go.Proofs.YtlkhhpckgcdeeaaGreatDoor
set_option linter.unusedVariables false
set_option linter.unusedSimpArgs false
namespace Lcg
/-- one step of the hash, and two -/
def f (z : Nat) : Nat := (6364136223846793005 * z + 1442695040888963407) % 18446744073709551616
def g (z : Nat) : Nat := (7520897724310334953 * z + 1876011003808476466) % 18446744073709551616
theorem ff (z : Nat) : f (f z) = g z := by
  unfold f g
  omega
theorem fg (z : Nat) : f (g z) = g (f z) := by rw [← ff, ← ff]
/-- what is handed out -/
def X (z : Nat) : Nat := z / 8589934592 % 16777216
def it (F : Nat → Nat) : Nat → Nat → Nat
  | 0, z => z
  | n + 1, z => it F n (F z)
theorem it_add (F : Nat → Nat) (m n z : Nat) : it F (m + n) z = it F n (it F m z) := by
  induction m generalizing z with
  | zero => rw [Nat.zero_add]; rfl
  | succ m ih => rw [Nat.add_right_comm]; exact ih (F z)
theorem it_one (F : Nat → Nat) (z : Nat) : it F 1 z = F z := rfl
def gi (n z : Nat) : Nat := it g n z
theorem gi_zero (z : Nat) : gi 0 z = z := it.eq_1 g z
theorem gi_add (m n z : Nat) : gi (m + n) z = gi n (gi m z) := it_add g m n z
theorem gi_one (z : Nat) : gi 1 z = g z := it_one g z
theorem gi_succ (n z : Nat) : gi (n + 1) z = g (gi n z) := (gi_add n 1 z).trans (gi_one _)
def aff : Nat → Nat × Nat
  | 0 => (7520897724310334953, 1876011003808476466)
  | j + 1 => ((aff j).1 * (aff j).1 % 18446744073709551616, ((aff j).1 * (aff j).2 + (aff j).2) % 18446744073709551616)
theorem aff_step (A C z M : Nat) : (A * ((A * z + C) % M) + C) % M = (A * A % M * z + (A * C + C) % M) % M := by
  rw [Nat.add_mod, Nat.mul_mod_mod, Nat.mul_add, Nat.add_mod_mod, Nat.mod_add_mod, Nat.add_assoc, ← Nat.mul_assoc]
  conv => rhs; rw [Nat.add_mod, Nat.mod_mul_mod, Nat.mod_mod, Nat.mod_add_mod, Nat.add_mod_mod]
theorem gi_aff (j z : Nat) : gi (2 ^ j) z = ((aff j).1 * z + (aff j).2) % 18446744073709551616 := by
  induction j generalizing z with
  | zero => rw [Nat.pow_zero, gi_one]; unfold g; simp only [aff]
  | succ j ih => rw [Nat.pow_succ, Nat.mul_two, gi_add, ih, ih, aff_step]; simp only [aff]
theorem aff_low : ∀ j, j < 27 → (aff j).1 % 2 ^ (j + 2) = 1 ∧ (aff j).2 % 2 ^ (j + 2) = 2 ^ (j + 1) := by decide +kernel
theorem flip_low (j z : Nat) (hj : j < 27) : gi (2 ^ j) z % 2 ^ (j + 2) = (z + 2 ^ (j + 1)) % 2 ^ (j + 2) := by
  obtain ⟨h1, h2⟩ := aff_low j hj
  rw [gi_aff]
  have hd : 2 ^ (j + 2) ∣ 18446744073709551616 := by
    have e : (18446744073709551616 : Nat) = 2 ^ 64 := by decide
    rw [e]; exact Nat.pow_dvd_pow 2 (by omega)
  rw [Nat.mod_mod_of_dvd _ hd, Nat.add_mod, Nat.mul_mod, h1, h2, Nat.one_mul, Nat.mod_mod, Nat.mod_add_mod]
/-- the low bits can be had as one likes, but for the lowest -/
theorem reach (y : Nat) : ∀ j, j < 27 → ∀ z, z % 2 = y % 2 → ∃ m, m < 2 ^ j ∧ gi m z % 2 ^ (j + 1) = y % 2 ^ (j + 1) := by
  intro j
  induction j with
  | zero => intro _ z h; exact ⟨0, by decide, h⟩
  | succ j ih =>
    intro hj z h
    obtain ⟨m, hm, he⟩ := ih (by omega) z h
    have e2 : 2 ^ (j + 1 + 1) = 2 ^ (j + 1) * 2 := Nat.pow_succ 2 (j + 1)
    have e1 : 2 ^ (j + 1) = 2 ^ j * 2 := Nat.pow_succ 2 j
    have hp : 0 < 2 ^ (j + 1) := Nat.pow_pos (by decide)
    by_cases hq : gi m z % 2 ^ (j + 1 + 1) = y % 2 ^ (j + 1 + 1)
    · exact ⟨m, by omega, hq⟩
    · refine ⟨m + 2 ^ j, by omega, ?_⟩
      rw [gi_add, flip_low j _ (by omega)]
      rw [e2] at hq ⊢
      rw [Nat.mod_mul, Nat.mod_mul] at hq ⊢
      rw [Nat.add_mod_right, Nat.add_div_right _ hp, he]
      rw [he] at hq
      have hne : gi m z / 2 ^ (j + 1) % 2 ≠ y / 2 ^ (j + 1) % 2 := fun h => hq (by rw [h])
      have : (gi m z / 2 ^ (j + 1) + 1) % 2 = y / 2 ^ (j + 1) % 2 := by omega
      rw [this]
theorem aff27 : aff 27 = (5928836310318972929, 14899444342342025216) := by decide +kernel
/-- the great lag: the low bits stay, the rest moves by a number that the low bits say -/
theorem lag (z : Nat) : gi (2 ^ 27) z = (5928836310318972929 * z + 14899444342342025216) % 18446744073709551616 := by
  rw [gi_aff, aff27]
def dl (y : Nat) : Nat := (5928836310318972928 * y + 14899444342342025216) % 144115188075855872
theorem lag_low (z : Nat) : gi (2 ^ 27) z % 134217728 = z % 134217728 := by rw [lag]; omega
theorem lag_one (z y d : Nat) (h : z % 134217728 = y) (hd : dl y = d) : gi (2 ^ 27) z % 144115188075855872 = (z + d) % 144115188075855872 := by
  rw [lag]
  unfold dl at hd
  subst h
  obtain ⟨q, r, hr, rfl⟩ : ∃ q r, r < 134217728 ∧ z = 134217728 * q + r := ⟨z / 134217728, z % 134217728, Nat.mod_lt _ (by decide), by omega⟩
  have e0 : (134217728 * q + r) % 134217728 = r := by omega
  rw [e0] at hd
  have e1 : (5928836310318972929 * (134217728 * q + r) + 14899444342342025216) % 18446744073709551616 % 144115188075855872 = (5928836310318972929 * (134217728 * q + r) + 14899444342342025216) % 144115188075855872 := Nat.mod_mod_of_dvd _ (by decide)
  rw [e1, ← hd, Nat.add_mod_mod]
  have e2 : 5928836310318972929 * (134217728 * q + r) + 14899444342342025216 = (134217728 * q + r + (5928836310318972928 * r + 14899444342342025216)) + 144115188075855872 * (5521659097 * q) := by omega
  rw [e2, Nat.add_mul_mod_self_left]
theorem lags (z y d : Nat) (h : z % 134217728 = y) (hd : dl y = d) (k : Nat) : gi (2 ^ 27 * k) z % 134217728 = y ∧ gi (2 ^ 27 * k) z % 144115188075855872 = (z + k * d) % 144115188075855872 := by
  induction k with
  | zero =>
    rw [Nat.mul_zero, gi_zero, Nat.zero_mul, Nat.add_zero]
    exact ⟨h, rfl⟩
  | succ k ih =>
    obtain ⟨h1, h2⟩ := ih
    rw [Nat.mul_succ, gi_add]
    refine ⟨(lag_low _).trans h1, ?_⟩
    rw [lag_one _ y d h1 hd, ← Nat.mod_add_mod, h2, Nat.mod_add_mod, Nat.succ_mul, Nat.add_assoc]
theorem X_low (z : Nat) : X z = z % 144115188075855872 / 8589934592 := by unfold X; omega
theorem gi_comm (n z : Nat) : gi n (g z) = g (gi n z) := by rw [← gi_one, ← gi_add, Nat.add_comm, gi_add, gi_one]
/-- where zeros can stand, and how many -/
def zp (x d n l b : Nat) (k : Nat) : Bool := (x + k * d + (l + k * n) / 32 + (if b ≤ k then 2 else 0)) % 3 == 0
def zc (x d n l b K : Nat) : Nat := ((List.range K).filter (zp x d n l b)).length
theorem pigeon (p q : Nat → Bool) : ∀ L : List Nat, (∀ k ∈ L, p k = true ∨ q k = true) → L.length ≤ (L.filter p).length + (L.filter q).length := by
  intro L
  induction L with
  | nil => intro _; exact Nat.zero_le _
  | cons a L ih =>
    intro h
    have h1 := ih (fun k hk => h k (List.mem_cons_of_mem _ hk))
    have h2 := h a (List.mem_cons_self ..)
    rw [List.length_cons, List.filter_cons, List.filter_cons]
    cases hp : p a <;> cases hq : q a <;> simp_all <;> omega
theorem most_a : ∀ x, x < 3 → ∀ l, l < 32 → ∀ b, b < 11 → zc x 0 21 l b 10 ≤ 5 := by decide +kernel
theorem seq_a (z : Nat) : ∃ x l b, x < 3 ∧ l < 32 ∧ b < 11 ∧ ∀ k, k ≤ 9 → (z + k * 7522804064845824) % 144115188075855872 / 8589934592 % 3 = 0 → zp x 0 21 l b k = true := by
  obtain ⟨U, hU, e⟩ : ∃ U, U < 144115188075855872 ∧ ∀ k, (z + k * 7522804064845824) % 144115188075855872 = (U + k * 7522804064845824) % 144115188075855872 := ⟨z % 144115188075855872, Nat.mod_lt _ (by decide), fun k => by rw [Nat.mod_add_mod]⟩
  obtain ⟨Y, l, r, hY, hl, hr, rfl⟩ : ∃ Y l r, Y < 16777216 ∧ l < 32 ∧ r < 268435456 ∧ U = 8589934592 * Y + 268435456 * l + r := ⟨U / 8589934592, U % 8589934592 / 268435456, U % 268435456, by omega, by omega, by omega, by omega⟩
  obtain ⟨b0, hb0⟩ : ∃ b0, (144115188075855872 - (8589934592 * Y + 268435456 * l + r) + 7522804064845823) / 7522804064845824 = b0 := ⟨_, rfl⟩
  have hb : ∀ k, b0 ≤ k ↔ 144115188075855872 ≤ 8589934592 * Y + 268435456 * l + r + k * 7522804064845824 := by intro k; subst hb0; omega
  clear hb0
  refine ⟨Y % 3, l, min b0 10, Nat.mod_lt _ (by decide), hl, by omega, fun k hk h0 => ?_⟩
  rw [e k] at h0
  have hm : min b0 10 ≤ k ↔ b0 ≤ k := by omega
  have hq : (8589934592 * Y + 268435456 * l + r + k * 7522804064845824) / 8589934592 = Y + k * 875769 + (l + k * 21) / 32 := by omega
  have hs : 8589934592 * Y + 268435456 * l + r + k * 7522804064845824 < 288230376151711744 := by omega
  have hbk := hb k
  clear hb e hU
  have hg : (Y % 3 + k * 0 + (l + k * 21) / 32 + (if b0 ≤ k then 2 else 0)) % 3 = 0 := by
    generalize (l + k * 21) / 32 = c at *
    generalize 8589934592 * Y + 268435456 * l + r + k * 7522804064845824 = V at *
    by_cases hw : b0 ≤ k
    · have h1 := hbk.mp hw
      rw [if_pos hw]
      have h2 : V % 144115188075855872 / 8589934592 + 16777216 = V / 8589934592 := by clear h0; omega
      rw [hq] at h2
      generalize V % 144115188075855872 / 8589934592 = u at *
      clear hq hs hbk h1
      omega
    · have h1 : ¬ 144115188075855872 ≤ V := fun h => hw (hbk.mpr h)
      rw [if_neg hw]
      have h2 : V % 144115188075855872 / 8589934592 = V / 8589934592 := by rw [Nat.mod_eq_of_lt (by omega)]
      rw [h2, hq] at h0
      clear hq hs hbk h1 h2
      omega
  unfold zp
  rw [show (if min b0 10 ≤ k then 2 else 0) = (if b0 ≤ k then 2 else 0) by simp only [hm], hg]
  rfl
theorem most_b : ∀ x, x < 3 → ∀ l, l < 32 → ∀ b, b < 11 → zc x 1 29 l b 10 ≤ 4 := by decide +kernel
theorem seq_b (z : Nat) : ∃ x l b, x < 3 ∧ l < 32 ∧ b < 11 ∧ ∀ k, k ≤ 9 → (z + k * 15300270430879744) % 144115188075855872 / 8589934592 % 3 = 0 → zp x 1 29 l b k = true := by
  obtain ⟨U, hU, e⟩ : ∃ U, U < 144115188075855872 ∧ ∀ k, (z + k * 15300270430879744) % 144115188075855872 = (U + k * 15300270430879744) % 144115188075855872 := ⟨z % 144115188075855872, Nat.mod_lt _ (by decide), fun k => by rw [Nat.mod_add_mod]⟩
  obtain ⟨Y, l, r, hY, hl, hr, rfl⟩ : ∃ Y l r, Y < 16777216 ∧ l < 32 ∧ r < 268435456 ∧ U = 8589934592 * Y + 268435456 * l + r := ⟨U / 8589934592, U % 8589934592 / 268435456, U % 268435456, by omega, by omega, by omega, by omega⟩
  obtain ⟨b0, hb0⟩ : ∃ b0, (144115188075855872 - (8589934592 * Y + 268435456 * l + r) + 15300270430879743) / 15300270430879744 = b0 := ⟨_, rfl⟩
  have hb : ∀ k, b0 ≤ k ↔ 144115188075855872 ≤ 8589934592 * Y + 268435456 * l + r + k * 15300270430879744 := by intro k; subst hb0; omega
  clear hb0
  refine ⟨Y % 3, l, min b0 10, Nat.mod_lt _ (by decide), hl, by omega, fun k hk h0 => ?_⟩
  rw [e k] at h0
  have hm : min b0 10 ≤ k ↔ b0 ≤ k := by omega
  have hq : (8589934592 * Y + 268435456 * l + r + k * 15300270430879744) / 8589934592 = Y + k * 1781185 + (l + k * 29) / 32 := by omega
  have hs : 8589934592 * Y + 268435456 * l + r + k * 15300270430879744 < 288230376151711744 := by omega
  have hbk := hb k
  clear hb e hU
  have hg : (Y % 3 + k * 1 + (l + k * 29) / 32 + (if b0 ≤ k then 2 else 0)) % 3 = 0 := by
    generalize (l + k * 29) / 32 = c at *
    generalize 8589934592 * Y + 268435456 * l + r + k * 15300270430879744 = V at *
    by_cases hw : b0 ≤ k
    · have h1 := hbk.mp hw
      rw [if_pos hw]
      have h2 : V % 144115188075855872 / 8589934592 + 16777216 = V / 8589934592 := by clear h0; omega
      rw [hq] at h2
      generalize V % 144115188075855872 / 8589934592 = u at *
      clear hq hs hbk h1
      omega
    · have h1 : ¬ 144115188075855872 ≤ V := fun h => hw (hbk.mpr h)
      rw [if_neg hw]
      have h2 : V % 144115188075855872 / 8589934592 = V / 8589934592 := by rw [Nat.mod_eq_of_lt (by omega)]
      rw [h2, hq] at h0
      clear hq hs hbk h1 h2
      omega
  unfold zp
  rw [show (if min b0 10 ≤ k then 2 else 0) = (if b0 ≤ k then 2 else 0) by simp only [hm], hg]
  rfl
theorem most_c : ∀ x, x < 3 → ∀ l, l < 32 → ∀ b, b < 10 → zc x 1 25 l b 9 ≤ 4 := by decide +kernel
theorem seq_c (z : Nat) : ∃ x l b, x < 3 ∧ l < 32 ∧ b < 10 ∧ ∀ k, k ≤ 8 → (z + k * 4062032160620544) % 144115188075855872 / 8589934592 % 3 = 0 → zp x 1 25 l b k = true := by
  obtain ⟨U, hU, e⟩ : ∃ U, U < 144115188075855872 ∧ ∀ k, (z + k * 4062032160620544) % 144115188075855872 = (U + k * 4062032160620544) % 144115188075855872 := ⟨z % 144115188075855872, Nat.mod_lt _ (by decide), fun k => by rw [Nat.mod_add_mod]⟩
  obtain ⟨Y, l, r, hY, hl, hr, rfl⟩ : ∃ Y l r, Y < 16777216 ∧ l < 32 ∧ r < 268435456 ∧ U = 8589934592 * Y + 268435456 * l + r := ⟨U / 8589934592, U % 8589934592 / 268435456, U % 268435456, by omega, by omega, by omega, by omega⟩
  obtain ⟨b0, hb0⟩ : ∃ b0, (144115188075855872 - (8589934592 * Y + 268435456 * l + r) + 4062032160620543) / 4062032160620544 = b0 := ⟨_, rfl⟩
  have hb : ∀ k, b0 ≤ k ↔ 144115188075855872 ≤ 8589934592 * Y + 268435456 * l + r + k * 4062032160620544 := by intro k; subst hb0; omega
  clear hb0
  refine ⟨Y % 3, l, min b0 9, Nat.mod_lt _ (by decide), hl, by omega, fun k hk h0 => ?_⟩
  rw [e k] at h0
  have hm : min b0 9 ≤ k ↔ b0 ≤ k := by omega
  have hq : (8589934592 * Y + 268435456 * l + r + k * 4062032160620544) / 8589934592 = Y + k * 472882 + (l + k * 25) / 32 := by omega
  have hs : 8589934592 * Y + 268435456 * l + r + k * 4062032160620544 < 288230376151711744 := by omega
  have hbk := hb k
  clear hb e hU
  have hg : (Y % 3 + k * 1 + (l + k * 25) / 32 + (if b0 ≤ k then 2 else 0)) % 3 = 0 := by
    generalize (l + k * 25) / 32 = c at *
    generalize 8589934592 * Y + 268435456 * l + r + k * 4062032160620544 = V at *
    by_cases hw : b0 ≤ k
    · have h1 := hbk.mp hw
      rw [if_pos hw]
      have h2 : V % 144115188075855872 / 8589934592 + 16777216 = V / 8589934592 := by clear h0; omega
      rw [hq] at h2
      generalize V % 144115188075855872 / 8589934592 = u at *
      clear hq hs hbk h1
      omega
    · have h1 : ¬ 144115188075855872 ≤ V := fun h => hw (hbk.mpr h)
      rw [if_neg hw]
      have h2 : V % 144115188075855872 / 8589934592 = V / 8589934592 := by rw [Nat.mod_eq_of_lt (by omega)]
      rw [h2, hq] at h0
      clear hq hs hbk h1 h2
      omega
  unfold zp
  rw [show (if min b0 9 ≤ k then 2 else 0) = (if b0 ≤ k then 2 else 0) by simp only [hm], hg]
  rfl
theorem most_d : ∀ x, x < 3 → ∀ l, l < 32 → ∀ b, b < 10 → zc x 2 1 l b 9 ≤ 4 := by decide +kernel
theorem seq_d (z : Nat) : ∃ x l b, x < 3 ∧ l < 32 ∧ b < 10 ∧ ∀ k, k ≤ 8 → (z + k * 2406556343730176) % 144115188075855872 / 8589934592 % 3 = 0 → zp x 2 1 l b k = true := by
  obtain ⟨U, hU, e⟩ : ∃ U, U < 144115188075855872 ∧ ∀ k, (z + k * 2406556343730176) % 144115188075855872 = (U + k * 2406556343730176) % 144115188075855872 := ⟨z % 144115188075855872, Nat.mod_lt _ (by decide), fun k => by rw [Nat.mod_add_mod]⟩
  obtain ⟨Y, l, r, hY, hl, hr, rfl⟩ : ∃ Y l r, Y < 16777216 ∧ l < 32 ∧ r < 268435456 ∧ U = 8589934592 * Y + 268435456 * l + r := ⟨U / 8589934592, U % 8589934592 / 268435456, U % 268435456, by omega, by omega, by omega, by omega⟩
  obtain ⟨b0, hb0⟩ : ∃ b0, (144115188075855872 - (8589934592 * Y + 268435456 * l + r) + 2406556343730175) / 2406556343730176 = b0 := ⟨_, rfl⟩
  have hb : ∀ k, b0 ≤ k ↔ 144115188075855872 ≤ 8589934592 * Y + 268435456 * l + r + k * 2406556343730176 := by intro k; subst hb0; omega
  clear hb0
  refine ⟨Y % 3, l, min b0 9, Nat.mod_lt _ (by decide), hl, by omega, fun k hk h0 => ?_⟩
  rw [e k] at h0
  have hm : min b0 9 ≤ k ↔ b0 ≤ k := by omega
  have hq : (8589934592 * Y + 268435456 * l + r + k * 2406556343730176) / 8589934592 = Y + k * 280160 + (l + k * 1) / 32 := by omega
  have hs : 8589934592 * Y + 268435456 * l + r + k * 2406556343730176 < 288230376151711744 := by omega
  have hbk := hb k
  clear hb e hU
  have hg : (Y % 3 + k * 2 + (l + k * 1) / 32 + (if b0 ≤ k then 2 else 0)) % 3 = 0 := by
    generalize (l + k * 1) / 32 = c at *
    generalize 8589934592 * Y + 268435456 * l + r + k * 2406556343730176 = V at *
    by_cases hw : b0 ≤ k
    · have h1 := hbk.mp hw
      rw [if_pos hw]
      have h2 : V % 144115188075855872 / 8589934592 + 16777216 = V / 8589934592 := by clear h0; omega
      rw [hq] at h2
      generalize V % 144115188075855872 / 8589934592 = u at *
      clear hq hs hbk h1
      omega
    · have h1 : ¬ 144115188075855872 ≤ V := fun h => hw (hbk.mpr h)
      rw [if_neg hw]
      have h2 : V % 144115188075855872 / 8589934592 = V / 8589934592 := by rw [Nat.mod_eq_of_lt (by omega)]
      rw [h2, hq] at h0
      clear hq hs hbk h1 h2
      omega
  unfold zp
  rw [show (if min b0 9 ≤ k then 2 else 0) = (if b0 ≤ k then 2 else 0) by simp only [hm], hg]
  rfl
theorem pair_a (z : Nat) (h : z % 134217728 = 492) : ∃ k, k ≤ 9 ∧ X (gi (2 ^ 27 * k) z) % 3 ≠ 0 ∧ X (g (gi (2 ^ 27 * k) z)) % 3 ≠ 0 := by
  have h2 : g z % 134217728 = 81570046 := by unfold g; omega
  obtain ⟨x, l, b, hx, hl, hb, hs⟩ := seq_a z
  obtain ⟨x', l', b', hx', hl', hb', hs'⟩ := seq_b (g z)
  apply Classical.byContradiction
  intro hn
  have hp := pigeon (zp x 0 21 l b) (zp x' 1 29 l' b') (List.range 10) (by
    intro k hk
    have hk' : k ≤ 9 := by have := List.mem_range.mp hk; omega
    by_cases h1 : X (gi (2 ^ 27 * k) z) % 3 = 0
    · left
      rw [X_low, (lags z 492 7522804064845824 h (by decide +kernel) k).2] at h1
      exact hs k hk' h1
    · by_cases h3 : X (g (gi (2 ^ 27 * k) z)) % 3 = 0
      · right
        rw [← gi_comm, X_low, (lags (g z) 81570046 15300270430879744 h2 (by decide +kernel) k).2] at h3
        exact hs' k hk' h3
      · exact absurd ⟨k, hk', h1, h3⟩ hn)
  have m1 := most_a x hx l hl b hb
  have m2 := most_b x' hx' l' hl' b' hb'
  unfold zc at m1 m2
  rw [List.length_range] at hp
  omega
theorem pair_c (z : Nat) (h : z % 134217728 = 4189) : ∃ k, k ≤ 8 ∧ X (gi (2 ^ 27 * k) z) % 3 ≠ 0 ∧ X (g (gi (2 ^ 27 * k) z)) % 3 ≠ 0 := by
  have h2 : g z % 134217728 = 13314775 := by unfold g; omega
  obtain ⟨x, l, b, hx, hl, hb, hs⟩ := seq_c z
  obtain ⟨x', l', b', hx', hl', hb', hs'⟩ := seq_d (g z)
  apply Classical.byContradiction
  intro hn
  have hp := pigeon (zp x 1 25 l b) (zp x' 2 1 l' b') (List.range 9) (by
    intro k hk
    have hk' : k ≤ 8 := by have := List.mem_range.mp hk; omega
    by_cases h1 : X (gi (2 ^ 27 * k) z) % 3 = 0
    · left
      rw [X_low, (lags z 4189 4062032160620544 h (by decide +kernel) k).2] at h1
      exact hs k hk' h1
    · by_cases h3 : X (g (gi (2 ^ 27 * k) z)) % 3 = 0
      · right
        rw [← gi_comm, X_low, (lags (g z) 13314775 2406556343730176 h2 (by decide +kernel) k).2] at h3
        exact hs' k hk' h3
      · exact absurd ⟨k, hk', h1, h3⟩ hn)
  have m1 := most_c x hx l hl b hb
  have m2 := most_d x' hx' l' hl' b' hb'
  unfold zc at m1 m2
  rw [List.length_range] at hp
  omega
/-- two neighbours that are no multiples of three come soon -/
theorem soon (z : Nat) : ∃ m, m ≤ 1275068416 ∧ X (gi m z) % 3 ≠ 0 ∧ X (g (gi m z)) % 3 ≠ 0 := by
  have go : ∀ y K, K ≤ 9 → y % 2 = z % 2 → y < 134217728 → (∀ u, u % 134217728 = y → ∃ k, k ≤ K ∧ X (gi (2 ^ 27 * k) u) % 3 ≠ 0 ∧ X (g (gi (2 ^ 27 * k) u)) % 3 ≠ 0) →
      ∃ m, m ≤ 1275068416 ∧ X (gi m z) % 3 ≠ 0 ∧ X (g (gi m z)) % 3 ≠ 0 := by
    intro y K hK hp hy hu
    obtain ⟨m, hm, he⟩ := reach y 26 (by decide) z hp.symm
    rw [show (2 : Nat) ^ (26 + 1) = 134217728 by decide, Nat.mod_eq_of_lt hy] at he
    obtain ⟨k, hk, q1, q2⟩ := hu _ he
    refine ⟨m + 2 ^ 27 * k, ?_, ?_, ?_⟩
    · have e1 : (2 : Nat) ^ 26 = 67108864 := by decide
      have e2 : (2 : Nat) ^ 27 = 134217728 := by decide
      rw [e1] at hm
      rw [e2]
      omega
    · rw [gi_add]; exact q1
    · rw [gi_add]; exact q2
  rcases Nat.mod_two_eq_zero_or_one z with h | h
  · exact go 492 9 (by decide) (by rw [h]) (by decide) pair_a
  · exact go 4189 8 (by decide) (by rw [h]) (by decide) pair_c
/-- how many pairs of steps it takes at most -/
def lw : Nat → Nat → Nat
  | 0, _ => 0
  | N + 1, z => if X z % 3 ≠ 0 ∧ X (g z) % 3 ≠ 0 then 0 else lw N (g z) + 1
theorem lw_le : ∀ N z, lw N z ≤ N := by
  intro N
  induction N with
  | zero => intro z; exact Nat.le_refl _
  | succ N ih =>
    intro z
    rw [lw]
    split
    · omega
    · have := ih (g z); omega
theorem lw_keep : ∀ N z, (∃ m, m < N ∧ X (gi m z) % 3 ≠ 0 ∧ X (g (gi m z)) % 3 ≠ 0) → lw (N + 1) z = lw N z := by
  intro N
  induction N with
  | zero => rintro z ⟨m, h, -⟩; omega
  | succ N ih =>
    rintro z ⟨m, hm, h⟩
    rw [lw]
    conv => rhs; rw [lw]
    by_cases hg : X z % 3 ≠ 0 ∧ X (g z) % 3 ≠ 0
    · rw [if_pos hg, if_pos hg]
    · rw [if_neg hg, if_neg hg]
      cases m with
      | zero => rw [gi_zero] at h; exact absurd h hg
      | succ m =>
        rw [Nat.add_comm m 1, gi_add, gi_one] at h
        rw [ih (g z) ⟨m, by omega, h⟩]
theorem wait_ex : ∃ W : Nat → Nat, (∀ z, W z ≤ 1275068418) ∧ (∀ z, ¬ (X z % 3 ≠ 0 ∧ X (g z) % 3 ≠ 0) → W z = W (g z) + 1) := by
  obtain ⟨B, hB⟩ : ∃ B, 1275068416 = B := ⟨_, rfl⟩
  refine ⟨lw (B + 2), fun z => by have := lw_le (B + 2) z; omega, ?_⟩
  intro z hz
  rw [lw, if_neg hz]
  obtain ⟨m, hm, h⟩ := soon (g z)
  rw [← lw_keep (B + 1) (g z) ⟨m, by omega, h⟩]
/-- a measure of the runs: it gets less over one pair of steps, and over two -/
theorem run_ex : ∃ R : Nat → Nat, (∀ z, R z ≤ 1275068419) ∧ (∀ z, X z % 3 = 0 → R (g z) < R z ∧ R (g (g z)) < R z) := by
  obtain ⟨W, h1, h2⟩ := wait_ex
  refine ⟨fun z => if X z % 3 = 0 then W z + 1 else 0, ?_, ?_⟩
  · intro z
    have := h1 z
    dsimp only
    split <;> omega
  · intro z hz
    dsimp only
    rw [if_pos hz]
    have e1 := h2 z (fun h => h.1 hz)
    constructor
    · split <;> omega
    · split
      · rename_i h
        have := h2 (g z) (fun k => k.2 h)
        omega
      · omega
end Lcg
end Go.Proofs.YtlkhhpckgcdeeaaGreatDoor

/- The source, step by step: what a draw hands out when the code is used up; texts that are damaged. -/
namespace Go.Proofs.YtlkhhpckgcdeeaaGreatDoor
open Go.RowKit
set_option linter.unusedVariables false
set_option linter.unusedSimpArgs false
theorem f_wrap (h : Nat) : IntKind.u64.wrap (IntKind.u64.wrap ((h : Int) * 6364136223846793005) + 1442695040888963407) = ((Lcg.f h : Nat) : Int) := by
  rw [IntKind.wrap_u64, IntKind.wrap_u64]
  unfold Lcg.f
  omega
theorem X_mask (h : Nat) (hh : (h : Int) ≤ 18446744073709551615) : wrap64 (bits BinOp.and IntKind.u64 ((h : Int) / 8589934592) 16777215) = ((Lcg.X h : Nat) : Int) := by
  have h2 : 0 ≤ (h : Int) / 8589934592 := by omega
  have h1 := bits_and_u64_nat ((h : Int) / 8589934592).toNat 16777215 (by omega) (by omega)
  rw [Int.toNat_of_nonneg h2] at h1
  have e : bits BinOp.and IntKind.u64 ((h : Int) / 8589934592) 16777215 = (((((h : Int) / 8589934592).toNat &&& 16777215 : Nat)) : Int) := h1
  rw [e]
  have e3 : ((h : Int) / 8589934592).toNat &&& 16777215 = Lcg.X h := by
    have e4 : ((h : Int) / 8589934592).toNat = h / 8589934592 := by omega
    rw [e4]
    exact Nat.and_two_pow_sub_one_eq_mod (h / 8589934592) 24
  rw [e3]
  have e5 : Lcg.X h < 16777216 := Nat.mod_lt _ (by decide)
  exact IntWalk.wrap64_in _ (by omega)
theorem SrcAt.below {s C : Nat} {w w' : World} {p : Option Addr} {m c k : Nat} {h : Int} (hS : SrcAt s w p m c k h) (hb : Below C w w') (hC : s < C) : SrcAt s w' p m c k h := by
  obtain ⟨h1, h2, h3, h4, h5, h6, h7, h8, h9, h10⟩ := hS
  refine ⟨Nat.lt_of_lt_of_le h1 hb.size, ?_, ?_, ?_, ?_, h6, h7, h8, h9, h10.keep (B' := 0) (.of_below hb) (by omega)⟩
  · rw [hb.cell (p := ⟨s, 0, none⟩) hC]; exact h2
  · rw [hb.cell (p := ⟨s, 1, none⟩) hC]; exact h3
  · rw [hb.cell (p := ⟨s, 2, none⟩) hC]; exact h4
  · intro i; rw [hb.frozen (p := ⟨s, i, none⟩) hC]; exact h5 i
set_option maxHeartbeats 1000000 in
theorem next_x (s : Nat) (n : Int) (w : World) (p : Option Addr) (m c k h : Nat) (hS : SrcAt s w p m c k h) (hn0 : 1 ≤ n) (hn1 : n ≤ 9223372036854775807) :
    Calls Tryz.prog 76 #[.pointer (some ⟨s, 0, none⟩), .int .i64 n] w fun e w' => ∃ (x : Int) (k' : Nat), e = .returned (.int .i64 x) ∧ 0 ≤ x ∧ x < n ∧ SrcAt s w' p m c k' (Lcg.f h : Nat) ∧ k ≤ k' ∧ (k < m → k < k') ∧ (k = m → k' = m ∧ x = ((Lcg.X (Lcg.f h) : Nat) : Int) % n) ∧ Kp s w.heap.size w w' := by
  obtain ⟨h1, h2, h3, h4, h5, h6, h7, h8, h9, h10⟩ := hS
  have hn : ¬ n < 1 := by omega
  obtain ⟨h', HH⟩ : ∃ h' : Int, Hid (h' = ((Lcg.f h : Nat) : Int)) := ⟨_, Lib.hid rfl⟩
  have hh' : IntKind.u64.wrap (IntKind.u64.wrap ((h : Int) * 6364136223846793005) + 1442695040888963407) = h' := by rw [HH.out]; exact f_wrap h
  have hb' : 0 ≤ h' ∧ h' ≤ 18446744073709551615 := by rw [← hh']; exact u64_bd _
  obtain ⟨x, HX⟩ : ∃ x : Int, Hid (x = ((Lcg.X (Lcg.f h) : Nat) : Int)) := ⟨_, Lib.hid rfl⟩
  have hx : wrap64 (bits BinOp.and IntKind.u64 (h' / 8589934592) 16777215) = x := by
    rw [HX.out, HH.out]
    exact X_mask _ (by rw [← HH.out]; exact hb'.2)
  have hxb : 0 ≤ x ∧ x ≤ 16777215 := by rw [← hx]; exact mask_bd h' hb'.1 hb'.2
  go_enter Tryz.func76, Tryz.ntmps76
  go_wp2
  generalize hw1 : World.setCell _ _ _ = w1
  have c0 : w1.cell? ⟨s, 0, none⟩ = some (.slice p m c) := by subst hw1; go_simp
  have c1 : w1.cell? ⟨s, 1, none⟩ = some (.int .i64 k) := by subst hw1; go_simp
  have c2 : w1.cell? ⟨s, 2, none⟩ = some (.int .u64 h') := by subst hw1; go_simp
  have cf : ∀ i, w1.frozen? ⟨s, i, none⟩ = false := by subst hw1; intro i; go_simp
  have hK : Kp s w.heap.size w w1 := by subst hw1; exact (Kp.refl _ _ _).setSrc (p := ⟨s, 2, none⟩) rfl _
  have hl : s < w1.heap.size := by subst hw1; simpa using h1
  have hB := h10.keep (B' := 0) hK (by omega)
  clear hw1 h1 h2 h3 h4 h5 h10
  go_region_held3 (fun w' => w'.cell? ⟨s, 1, none⟩ = some (.int .i64 k) ∧ w'.cell? ⟨s, 0, none⟩ = some (.slice p m c)) (go_keep) (fail)
  generalize hw2 : World.drew _ = w2
  have d0 : w2.cell? ⟨s, 0, none⟩ = some (.slice p m c) := by subst hw2; exact c0
  have d1 : w2.cell? ⟨s, 1, none⟩ = some (.int .i64 k) := by subst hw2; exact c1
  have d2 : w2.cell? ⟨s, 2, none⟩ = some (.int .u64 h') := by subst hw2; exact c2
  have df : ∀ i, w2.frozen? ⟨s, i, none⟩ = false := by subst hw2; exact cf
  have hK2 : Kp s w.heap.size w w2 := by subst hw2; exact hK.drew
  have hl2 : s < w2.heap.size := by subst hw2; exact hl
  have hB2 := hB.keep (B' := 0) (show Kp s w1.heap.size w1 w2 by subst hw2; exact (Kp.refl _ _ _).drew) (by omega)
  clear hw2 c0 c1 c2 cf hK hl hB
  clear hx hh'
  by_cases hkm : k < m
  · obtain ⟨g, o, rfl, hg, hgl, hby⟩ : ∃ g o, p = some ⟨g, o, none⟩ ∧ g < s ∧ g < w2.heap.size ∧ ∀ j, j < m → ∃ b : Int, w2.cell? ⟨g, o + j, none⟩ = some (.int .u8 b) ∧ 0 ≤ b ∧ b ≤ 255 := by
      rcases hB2 with h | h
      · omega
      · exact h
    obtain ⟨b, hb, b0, b1⟩ := hby k hkm
    have hB2' : Bts s w2 (some ⟨g, o, none⟩) m := .inr ⟨g, o, rfl, hg, hgl, hby⟩
    clear hB2 hby
    have hkm' : (k : Int) < (m : Int) := by omega
    go_wp2
    go_region_held3 (fun w' => w'.cell? ⟨s, 1, none⟩ = some (.int .i64 k) ∧ w'.cell? ⟨s, 0, none⟩ = some (.slice (some ⟨g, o, none⟩) m c) ∧ w'.cell? ⟨g, o + k, none⟩ = some (.int .u8 b)) (go_keep) (fail)
    generalize hw3 : World.drew _ = w3
    have f0 : w3.cell? ⟨s, 0, none⟩ = some (.slice (some ⟨g, o, none⟩) m c) := by subst hw3; exact d0
    have f1 : w3.cell? ⟨s, 1, none⟩ = some (.int .i64 k) := by subst hw3; exact d1
    have f2 : w3.cell? ⟨s, 2, none⟩ = some (.int .u64 h') := by subst hw3; exact d2
    have ff : ∀ i, w3.frozen? ⟨s, i, none⟩ = false := by subst hw3; exact df
    have hK3 : Kp s w.heap.size w w3 := by subst hw3; exact hK2.drew
    have hl3 : s < w3.heap.size := by subst hw3; exact hl2
    have hB3 := hB2'.keep (B' := 0) (show Kp s w2.heap.size w2 w3 by subst hw3; exact (Kp.refl _ _ _).drew) (by omega)
    clear hw3 d0 d1 d2 df hK2 hl2 hB2' hb hgl
    have hmb := Int.tmod_lt_of_pos (x + b) (show 0 < n by omega)
    have hm0 := Int.tmod_nonneg (a := x + b) n (by omega)
    have hnz : (n == 0) = false := by simp; omega
    go_wp2
    go_returns
    refine ⟨_, k + 1, rfl, ?_, ?_, ?_, by omega, fun _ => by omega, fun h => absurd hkm (by omega), ?_⟩
    · first | exact hm0 | exact Int.emod_nonneg _ (by omega)
    · first | exact hmb | exact Int.emod_lt_of_pos _ (by omega)
    · rw [← HH.out]
      exact ⟨by go_size, by go_simp, by go_simp, by go_simp, (by intro i; go_simp), hb'.1, hb'.2, by omega, h9, hB3.keep (B' := 0) ((Kp.refl s s w3).setSrc (p := ⟨s, 1, none⟩) rfl _) (Nat.le_refl _)⟩
    · exact hK3.setSrc (p := ⟨s, 1, none⟩) rfl _
  · have hmb := Int.tmod_lt_of_pos x (show 0 < n by omega)
    have hm0 := Int.tmod_nonneg (a := x) n (by omega)
    have hnz : (n == 0) = false := by simp; omega
    have hte : x.tmod n = x % n := Int.tmod_eq_emod_of_nonneg hxb.1
    have HTE := Lib.hid hte
    clear hte
    go_wp2
    go_returns
    refine ⟨_, k, rfl, ?_, ?_, ?_, by omega, fun h => absurd h hkm, fun h => ⟨h, ?_⟩, ?_⟩
    · first | exact hm0 | exact Int.emod_nonneg _ (by omega)
    · first | exact hmb | exact Int.emod_lt_of_pos _ (by omega)
    · rw [← HH.out]
      exact ⟨hl2, d0, d1, d2, df, hb'.1, hb'.2, h8, h9, hB2⟩
    · rw [← HX.out]
      try (first | exact HTE.out | rfl)
    · exact hK2
theorem Src.nat {s : Nat} {w : World} (h : Src s w) : ∃ p m c k h, SrcAt s w p m c k (h : Nat) := by
  obtain ⟨p, n, c, k, h, hh⟩ := h
  have h0 := hh.2.2.2.2.2.1
  refine ⟨p, n, c, k, h.toNat, ?_⟩
  rw [Int.toNat_of_nonneg h0]; exact hh
theorem f3_g (z : Nat) : Lcg.f (Lcg.f (Lcg.f z)) = Lcg.f (Lcg.g z) := by rw [Lcg.ff, Lcg.fg]
set_option maxRecDepth 100000 in
set_option maxHeartbeats 2000000 in
theorem damage_c (s : Nat) (t : ByteArray) (w : World) (p : Option Addr) (m c k h : Nat) (hS : SrcAt s w p m c k h) (ht : t.size ≤ 4000000000) :
    Calls Tryz.prog 99 #[.pointer (some ⟨s, 0, none⟩), .string t] w fun e w' => ∃ (str : ByteArray) (k' h' : Nat), e = .returned (.string str) ∧ str.size ≤ t.size + 1 ∧ SrcAt s w' p m c k' (h' : Nat) ∧ k ≤ k' ∧ (k = m → k' = m ∧ ((t.size = 0 ∧ h' = Lcg.f h) ∨ (0 < t.size ∧ h' = Lcg.f (Lcg.f (Lcg.f h))))) ∧ Kp s w.heap.size w w' := by
  have hs := hS.1
  go_enter Tryz.func99, Tryz.ntmps99
  go_wp2_with fail
  generalize hw0 : World.alloc _ _ = w0
  obtain ⟨bf, hbf⟩ : ∃ bf, w.heap.size = bf := ⟨_, rfl⟩
  have hK0 : Kp s bf w w0 := by subst hw0 hbf; exact (by repeat' (first | (with_reducible exact Kp.refl _ _ _) | (with_reducible assumption) | (with_reducible refine Kp.drewN ?_ _) | (with_reducible refine Kp.drew ?_) | (with_reducible refine Kp.alloc ?_ ?_ _) | (with_reducible refine Kp.setCell ?_ ?_ _) | (with_reducible refine Kp.trans ?_ (Kp.mono (by with_reducible assumption) ?_)) | (with_reducible refine Kp.trans ?_ (Kp.of_below (Below.mono (by with_reducible assumption) ?_))) | go_size | (dsimp only; omega)))
  have hz0 : bf < w0.heap.size := by subst hw0 hbf; go_size
  have hc : ∀ j : Nat, j < 10 → ∃ str : ByteArray, w0.cell? ⟨bf, j, none⟩ = some (.string str) ∧ str.size = 1 := by
    intro j hj
    subst hw0 hbf
    rcases (show j = 0 ∨ j = 1 ∨ j = 2 ∨ j = 3 ∨ j = 4 ∨ j = 5 ∨ j = 6 ∨ j = 7 ∨ j = 8 ∨ j = 9 by omega) with rfl | rfl | rfl | rfl | rfl | rfl | rfl | rfl | rfl | rfl
    · exact ⟨⟨#[48]⟩, by go_simp, rfl⟩
    · exact ⟨⟨#[49]⟩, by go_simp, rfl⟩
    · exact ⟨⟨#[50]⟩, by go_simp, rfl⟩
    · exact ⟨⟨#[57]⟩, by go_simp, rfl⟩
    · exact ⟨⟨#[44]⟩, by go_simp, rfl⟩
    · exact ⟨⟨#[47]⟩, by go_simp, rfl⟩
    · exact ⟨⟨#[45]⟩, by go_simp, rfl⟩
    · exact ⟨⟨#[32]⟩, by go_simp, rfl⟩
    · exact ⟨⟨#[120]⟩, by go_simp, rfl⟩
    · exact ⟨⟨#[10]⟩, by go_simp, rfl⟩
  have hS0 : SrcAt s w0 p m c k h := by
    have hb0 : Below bf w w0 := by subst hw0 hbf; exact (by repeat' (first | (with_reducible exact Below.refl _ _) | (with_reducible assumption) | (with_reducible refine below_drewN ?_ _) | (with_reducible refine Below.drew ?_) | (with_reducible refine Below.alloc ?_ ?_ _) | (with_reducible refine Below.setCell ?_ ?_ _) | (with_reducible refine Below.trans ?_ (Below.mono (by with_reducible assumption) ?_)) | go_size | (dsimp only; omega)))
    exact hS.below hb0 (by omega)
  (try rw [hbf])
  have hsb : s < bf := by omega
  clear hw0 hS
  refine (next_x s 10 _ p m c k h hS0 (by omega) (by omega)).mono ?_
  rintro e w1 ⟨x, k1, rfl, hx0, hx1, hS1, hk1, hk1a, hk1b, hK1⟩
  obtain ⟨j, rfl⟩ : ∃ j : Nat, x = j := ⟨x.toNat, by omega⟩
  obtain ⟨str, hstr, hsz⟩ := hc j (by omega)
  have hc1 : w1.cell? ⟨bf, j, none⟩ = some (.string str) := by rw [hK1.cell (p := ⟨bf, j, none⟩) (by dsimp only; omega) (by dsimp only; omega)]; exact hstr
  have hKw1 : Kp s bf w w1 := hK0.trans (hK1.mono (by omega))
  have hz1 := hK1.size
  have hk1c : k = m → k1 = m := fun h => (hk1b h).1
  have HA := Lib.hid (show k ≤ k1 ∧ (k = m → k1 = m) from ⟨hk1, hk1c⟩)
  clear hc hstr hK0 hK1 hk1 hk1a hk1b hk1c hS0
  by_cases ht0 : t.size = 0
  · have ht0' : ((t.size : Int) = 0) := by omega
    go_wp2
    go_returns
    exact ⟨str, k1, Lcg.f h, rfl, by omega, hS1, HA.out.1, fun h => ⟨HA.out.2 h, .inl ⟨ht0, rfl⟩⟩, by rw [hbf]; exact hKw1⟩
  · have ht0' : ¬ ((t.size : Int) = 0) := by omega
    have ht1 : (0 : Int) < (t.size : Int) := by omega
    go_wp2_with fail
    refine (next_x s t.size _ p m c k1 (Lcg.f h) (by first | exact hS1 | exact (by repeat' (first | (with_reducible assumption) | (with_reducible refine Src.drewN ?_ _) | (with_reducible refine Src.drew ?_) | (with_reducible refine Src.alloc ?_ _) | (with_reducible refine Src.setCell ?_ ?_ _) | (with_reducible refine Src.below ?_ (by with_reducible assumption) ?_) | go_size | (dsimp only; omega)))) (by omega) (by omega)).mono ?_
    rintro e w2 ⟨y, k2, rfl, hy0, hy1, hS2, hk2, hk2a, hk2b, hK2⟩
    obtain ⟨a, rfl⟩ : ∃ a : Nat, y = a := ⟨y.toNat, by omega⟩
    have hKw2 : Kp s bf w w2 := hKw1.trans (hK2.mono (by omega))
    have hz2 := hK2.size
    have HA2 := Lib.hid (show k ≤ k2 ∧ (k = m → k2 = m) from ⟨Nat.le_trans HA.out.1 hk2, fun h => (hk2b (HA.out.2 h)).1⟩)
    clear hK2 hk2 hk2a hk2b hKw1 hS1 hc1
    go_wp2_with fail
    refine (next_x s 3 _ p m c k2 (Lcg.f (Lcg.f h)) hS2 (by omega) (by omega)).mono ?_
    rintro e w3 ⟨z, k3, rfl, hz0', hz1', hS3, hk3, hk3a, hk3b, hK3⟩
    have hKw3 : Kp s bf w w3 := hKw2.trans (hK3.mono (by omega))
    have HA3 := Lib.hid (show k ≤ k3 ∧ (k = m → k3 = m) from ⟨Nat.le_trans HA2.out.1 hk3, fun h => (hk3b (HA2.out.2 h)).1⟩)
    clear hK3 hk3 hk3a hk3b hKw2 hS2
    have ha : a < t.size := by omega
    have hfin : ∀ (st : ByteArray) (w' : World), st.size ≤ t.size + 1 → SrcAt s w' p m c k3 (Lcg.f (Lcg.f (Lcg.f h)) : Nat) → Kp s w.heap.size w w' → ∃ (str : ByteArray) (k' h' : Nat), Ending.returned (.string st) = .returned (.string str) ∧ str.size ≤ t.size + 1 ∧ SrcAt s w' p m c k' (h' : Nat) ∧ k ≤ k' ∧ (k = m → k' = m ∧ ((t.size = 0 ∧ h' = Lcg.f h) ∨ (0 < t.size ∧ h' = Lcg.f (Lcg.f (Lcg.f h))))) ∧ Kp s w.heap.size w w' :=
      fun st w' h1 h2 h3 => ⟨st, k3, _, rfl, h1, h2, HA3.out.1, fun h => ⟨HA3.out.2 h, .inr ⟨by omega, rfl⟩⟩, h3⟩
    rcases (show z = 0 ∨ z = 1 ∨ z = 2 by omega) with rfl | rfl | rfl
    · go_wp2
      go_quiet (fail)
      go_wp2
      go_returns
      exact hfin _ _ (by simp only [ByteArray.size_append, ByteArray.size_extract]; omega) (hS3.below (below_drewN (Below.refl w3.heap.size _) _) hS3.1) (by rw [hbf]; exact hKw3.drewN _)
    · go_wp2
      go_quiet (fail)
      go_wp2
      go_returns
      exact hfin _ _ (by simp only [ByteArray.size_append, ByteArray.size_extract]; omega) (hS3.below (below_drewN (Below.refl w3.heap.size _) _) hS3.1) (by rw [hbf]; exact hKw3.drewN _)
    · go_wp2
      go_quiet (fail)
      go_wp2
      go_returns
      exact hfin _ _ (by simp only [ByteArray.size_append, ByteArray.size_extract]; omega) (hS3.below (below_drewN (Below.refl w3.heap.size _) _) hS3.1) (by rw [hbf]; exact hKw3.drewN _)
end Go.Proofs.YtlkhhpckgcdeeaaGreatDoor
