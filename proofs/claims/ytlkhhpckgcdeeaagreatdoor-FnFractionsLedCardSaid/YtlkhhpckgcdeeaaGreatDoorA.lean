/- Words and small contracts: numbers, matrices, what the laws put between. -/
import Derived.Test.YtlkhhpckgcdeeaaGreatDoorProg
import Derived.WalkKit
import Derived.WalkLawsBesides
import Derived.WalkSpells
import Derived.Lib.Hide
import Derived.LoopTactic
import Derived.BigQuiet
import Derived.Deep.QuietTactic
import Derived.Handy
namespace Go.Proofs.YtlkhhpckgcdeeaaGreatDoor
open Go.RowKit
set_option linter.unusedVariables false
set_option linter.unusedSimpArgs false

/-- a number of a matrix -/
def ent (n : Int) : Bool := decide (-1000000000 ≤ n) && decide (n ≤ 1000000000)
theorem ent_iff {n : Int} : ent n = true ↔ (-1000000000 ≤ n ∧ n ≤ 1000000000) := by
  unfold ent; simp

theorem bcell {W w1 : World} (hb : Below W.heap.size W w1) : (∀ b o, b < W.heap.size → w1.cell? ⟨b, o, none⟩ = W.cell? ⟨b, o, none⟩) ∧ (∀ b o, b < W.heap.size → w1.frozen? ⟨b, o, none⟩ = W.frozen? ⟨b, o, none⟩) :=
  ⟨fun b o h => hb.cell (p := ⟨b, o, none⟩) h, fun b o h => hb.frozen (p := ⟨b, o, none⟩) h⟩

theorem within_c (n lo hi : Int) (w : World) :
    Calls Tryz.prog 91 #[.int .i64 n, .int .i64 lo, .int .i64 hi] w fun e w' => e = .returned (.bool (decide (lo ≤ n) && decide (n ≤ hi))) ∧ w = w' := by
  by_cases h : lo ≤ n
  · have h1 : decide (lo ≤ n) = true := decide_eq_true h
    clear h
    go_enter Tryz.func91, Tryz.ntmps91
    go_wp2
    go_ret
    exact ⟨by simp [h1], rfl⟩
  · have h1 : decide (lo ≤ n) = false := decide_eq_false h
    clear h
    go_enter Tryz.func91, Tryz.ntmps91
    go_wp2
    go_ret
    exact ⟨by simp [h1], rfl⟩
theorem l01In_c (n lo hi : Int) (w : World) :
    Calls Tryz.prog 93 #[.int .i64 n, .int .i64 lo, .int .i64 hi] w fun e w' => e = .returned (.bool (decide (lo ≤ n) && decide (n ≤ hi))) ∧ w = w' := by
  by_cases h : lo ≤ n
  · have h1 : decide (lo ≤ n) = true := decide_eq_true h
    clear h
    go_enter Tryz.func93, Tryz.ntmps93
    go_wp2
    go_ret
    exact ⟨by simp [h1], rfl⟩
  · have h1 : decide (lo ≤ n) = false := decide_eq_false h
    clear h
    go_enter Tryz.func93, Tryz.ntmps93
    go_wp2
    go_ret
    exact ⟨by simp [h1], rfl⟩
theorem isEntry_c (n : Int) (w : World) :
    Calls Tryz.prog 115 #[.int .i64 n] w fun e w' => e = .returned (.bool (ent n)) ∧ w = w' := by
  go_enter Tryz.func115, Tryz.ntmps115
  go_wp2_with (go_at_call 91; refine (within_c _ _ _ _).mono ?_; rintro e w' ⟨rfl, rfl⟩)
  go_ret
  exact ⟨rfl, rfl⟩
theorem l01Entry_c (n : Int) (w : World) :
    Calls Tryz.prog 90 #[.int .i64 n] w fun e w' => e = .returned (.bool (ent n)) ∧ w = w' := by
  go_enter Tryz.func90, Tryz.ntmps90
  go_wp2_with (go_at_call 93; refine (l01In_c _ _ _ _).mono ?_; rintro e w' ⟨rfl, rfl⟩)
  go_ret
  exact ⟨rfl, rfl⟩
/-- the numbers of a slice -/
def ents (zs : List Int) : Bool := zs.all ent
theorem ents_step {zs : List Int} {k : Nat} (hk : k < zs.length) : ents (zs.drop k) = (ent (zs[k]?.getD 0) && ents (zs.drop (k + 1))) := by
  have h1 : zs[k]?.getD 0 = zs[k] := by simp [hk]
  rw [List.drop_eq_getElem_cons hk, h1]
  rfl
theorem ents_yes {zs : List Int} {k : Nat} (hk : k < zs.length) (hz : ents (zs.drop k) = ents zs) (h : ent (zs[k]?.getD 0) = true) : ents (zs.drop (k + 1)) = ents zs := by
  rw [ents_step hk, h] at hz
  simpa using hz
theorem ents_no {zs : List Int} {k : Nat} (hk : k < zs.length) (hz : ents (zs.drop k) = ents zs) (h : ent (zs[k]?.getD 0) = false) : ents zs = false := by
  rw [ents_step hk, h] at hz
  simpa using hz.symm
theorem ents_end {zs : List Int} {k : Nat} (hk : zs.length ≤ k) (hz : ents (zs.drop k) = ents zs) : ents zs = true := by
  rw [← hz, List.drop_of_length_le hk]; rfl

theorem areEntries_c (b off len cap : Nat) (zs : List Int) (w : World) (hl : zs.length = len) (hm : len ≤ 9223372036854775807)
    (hc : ∀ k, k < len → w.cell? ⟨b, off + k, none⟩ = some (.int .i64 (zs.getD k 0))) :
    Calls Tryz.prog 71 #[.slice (some ⟨b, off, none⟩) len cap] w fun e w' => e = .returned (.bool (ents zs)) ∧ w = w' := by
  have HC := Lib.hid hc
  have HL := Lib.hid hl
  clear hc hl
  go_enter Tryz.func71, Tryz.ntmps71
  go_wp2
  go_loop [7] (fun i => ∃ k : Nat, k ≤ len ∧ i = .int .i64 k ∧ ents (zs.drop k) = ents zs) (fun i => len - (intOf i).toNat)
  case atStart => exact ⟨0, Nat.zero_le _, rfl, rfl⟩
  case round =>
    obtain ⟨k, hk, rfl, hz⟩ := hrel
    have HZ := Lib.hid hz
    clear hz
    by_cases hlt : k < len
    · have hcell := HC.out k hlt
      by_cases he : ent (zs[k]?.getD 0) = true
      · have hq := ents_yes (by rw [HL.out]; exact hlt) HZ.out he
        have HQ := Lib.hid hq
        clear hq
        go_wp2_with (go_at_call 115; refine (isEntry_c _ _).mono ?_; rintro e w' ⟨rfl, rfl⟩)
        go_round
        case rel => exact ⟨k + 1, by omega, by go_num, HQ.out⟩
        case measure => simp [intOf]; omega
      · have he' : ent (zs[k]?.getD 0) = false := by simpa using he
        clear he
        have hq := ents_no (by rw [HL.out]; exact hlt) HZ.out he'
        have HQ := Lib.hid hq
        clear hq
        go_wp2_with (go_at_call 115; refine (isEntry_c _ _).mono ?_; rintro e w' ⟨rfl, rfl⟩)
        go_ret
        exact ⟨by rw [HQ.out]; simp, rfl⟩
    · go_wp2
      go_ret
      exact ⟨by rw [ents_end (by rw [HL.out]; omega) HZ.out]; simp, rfl⟩
theorem areEntries_4 (b : Nat) (p q r s : Int) (w : World) (h0 : w.cell? ⟨b, 0, none⟩ = some (.int .i64 p)) (h1 : w.cell? ⟨b, 1, none⟩ = some (.int .i64 q))
    (h2 : w.cell? ⟨b, 2, none⟩ = some (.int .i64 r)) (h3 : w.cell? ⟨b, 3, none⟩ = some (.int .i64 s)) :
    Calls Tryz.prog 71 #[.slice (some ⟨b, 0, none⟩) 4 4] w fun e w' => e = .returned (.bool (ent p && ent q && ent r && ent s)) ∧ w = w' := by
  refine (areEntries_c b 0 4 4 [p, q, r, s] w rfl (by omega) ?_).mono ?_
  · intro k hk
    match k, hk with
    | 0, _ => simpa using h0
    | 1, _ => simpa using h1
    | 2, _ => simpa using h2
    | 3, _ => simpa using h3
  · rintro e w' ⟨rfl, rfl⟩
    exact ⟨by simp [ents, Bool.and_assoc], rfl⟩
theorem areEntries_2 (b : Nat) (p q : Int) (w : World) (h0 : w.cell? ⟨b, 0, none⟩ = some (.int .i64 p)) (h1 : w.cell? ⟨b, 1, none⟩ = some (.int .i64 q)) :
    Calls Tryz.prog 71 #[.slice (some ⟨b, 0, none⟩) 2 2] w fun e w' => e = .returned (.bool (ent p && ent q)) ∧ w = w' := by
  refine (areEntries_c b 0 2 2 [p, q] w rfl (by omega) ?_).mono ?_
  · intro k hk
    match k, hk with
    | 0, _ => simpa using h0
    | 1, _ => simpa using h1
  · rintro e w' ⟨rfl, rfl⟩
    exact ⟨by simp [ents], rfl⟩

/-- a matrix -/
def isM (p q r s : Int) : Bool := ent p && ent q && ent r && ent s && decide (p * s - q * r = 1)
theorem isM_iff {p q r s : Int} : isM p q r s = true ↔ (-1000000000 ≤ p ∧ p ≤ 1000000000) ∧ (-1000000000 ≤ q ∧ q ≤ 1000000000) ∧ (-1000000000 ≤ r ∧ r ≤ 1000000000) ∧ (-1000000000 ≤ s ∧ s ≤ 1000000000) ∧ p * s - q * r = 1 := by
  unfold isM
  simp only [Bool.and_eq_true, ent_iff, decide_eq_true_eq, and_assoc]
theorem mul_bd {x y A B : Int} (hx0 : -A ≤ x) (hx1 : x ≤ A) (hy0 : -B ≤ y) (hy1 : y ≤ B) : -(A * B) ≤ x * y ∧ x * y ≤ A * B := by
  have h1 : 0 ≤ (A - x) * (B - y) := Int.mul_nonneg (by omega) (by omega)
  have h2 : 0 ≤ (A + x) * (B + y) := Int.mul_nonneg (by omega) (by omega)
  have h3 : 0 ≤ (A - x) * (B + y) := Int.mul_nonneg (by omega) (by omega)
  have h4 : 0 ≤ (A + x) * (B - y) := Int.mul_nonneg (by omega) (by omega)
  simp only [Int.sub_mul, Int.add_mul, Int.mul_sub, Int.mul_add] at h1 h2 h3 h4
  omega
theorem ent_mul {x y : Int} (hx : ent x = true) (hy : ent y = true) : -1000000000000000000 ≤ x * y ∧ x * y ≤ 1000000000000000000 := by
  have h1 := ent_iff.mp hx
  have h2 := ent_iff.mp hy
  have := mul_bd h1.1 h1.2 h2.1 h2.2
  omega

theorem IsMatrix_c (p q r s : Int) (w : World) :
    Calls Tryz.prog 40 #[.agg #[.int .i64 p, .int .i64 q, .int .i64 r, .int .i64 s]] w fun e w' => e = .returned (.bool (isM p q r s)) ∧ Below w.heap.size w w' := by
  by_cases h : (ent p && ent q && ent r && ent s) = true
  · have h' := h
    simp only [Bool.and_eq_true] at h'
    obtain ⟨⟨⟨e0, e1⟩, e2⟩, e3⟩ := h'
    obtain ⟨a0, a1⟩ := ent_mul e0 e3
    obtain ⟨b0, b1⟩ := ent_mul e1 e2
    have H := Lib.hid h
    clear h e0 e1 e2 e3
    go_enter Tryz.func40, Tryz.ntmps40
    go_wp2_with (go_at_call 71; refine (areEntries_4 _ p q r s _ (by go_cell) (by go_cell) (by go_cell) (by go_cell)).mono ?_; rintro e w' ⟨rfl, rfl⟩; rw [H.out])
    go_ret
    exact ⟨by simp [isM, H.out]; rfl, (by repeat' (first | (with_reducible exact Below.refl _ _) | (with_reducible assumption) | (with_reducible refine below_drewN ?_ _) | (with_reducible refine Below.drew ?_) | (with_reducible refine Below.alloc ?_ ?_ _) | (with_reducible refine Below.setCell ?_ ?_ _) | (with_reducible refine Below.trans ?_ (Below.mono (by with_reducible assumption) ?_)) | go_size | (dsimp only; omega)))⟩
  · have h1 : (ent p && ent q && ent r && ent s) = false := by simpa only [Bool.not_eq_true] using h
    have H := Lib.hid h1
    clear h h1
    go_enter Tryz.func40, Tryz.ntmps40
    go_wp2_with (go_at_call 71; refine (areEntries_4 _ p q r s _ (by go_cell) (by go_cell) (by go_cell) (by go_cell)).mono ?_; rintro e w' ⟨rfl, rfl⟩; rw [H.out])
    go_ret
    exact ⟨by simp [isM, H.out], (by repeat' (first | (with_reducible exact Below.refl _ _) | (with_reducible assumption) | (with_reducible refine below_drewN ?_ _) | (with_reducible refine Below.drew ?_) | (with_reducible refine Below.alloc ?_ ?_ _) | (with_reducible refine Below.setCell ?_ ?_ _) | (with_reducible refine Below.trans ?_ (Below.mono (by with_reducible assumption) ?_)) | go_size | (dsimp only; omega)))⟩
theorem l01Is_c (p q r s : Int) (w : World) :
    Calls Tryz.prog 68 #[.agg #[.int .i64 p, .int .i64 q, .int .i64 r, .int .i64 s]] w fun e w' => e = .returned (.bool (isM p q r s)) ∧ Below w.heap.size w w' := by
  by_cases h : (ent p && ent q && ent r && ent s) = true
  · have h' := h
    simp only [Bool.and_eq_true] at h'
    obtain ⟨⟨⟨e0, e1⟩, e2⟩, e3⟩ := h'
    obtain ⟨a0, a1⟩ := ent_mul e0 e3
    obtain ⟨b0, b1⟩ := ent_mul e1 e2
    go_enter Tryz.func68, Tryz.ntmps68
    go_wp2_with (go_at_call 90; refine (l01Entry_c _ _).mono ?_; rintro e w' ⟨rfl, rfl⟩)
    go_ret
    exact ⟨by simp [isM, e0, e1, e2, e3]; rfl, (by repeat' (first | (with_reducible exact Below.refl _ _) | (with_reducible assumption) | (with_reducible refine below_drewN ?_ _) | (with_reducible refine Below.drew ?_) | (with_reducible refine Below.alloc ?_ ?_ _) | (with_reducible refine Below.setCell ?_ ?_ _) | (with_reducible refine Below.trans ?_ (Below.mono (by with_reducible assumption) ?_)) | go_size | (dsimp only; omega)))⟩
  · have h1 : (ent p && ent q && ent r && ent s) = false := by simpa only [Bool.not_eq_true] using h
    have hx : isM p q r s = false := by simp [isM, h1]
    have H := Lib.hid hx
    clear h hx
    cases e0 : ent p
    · go_enter Tryz.func68, Tryz.ntmps68
      go_wp2_with (go_at_call 90; refine (l01Entry_c _ _).mono ?_; rintro e w' ⟨rfl, rfl⟩)
      go_ret
      exact ⟨by simp [H.out], (by repeat' (first | (with_reducible exact Below.refl _ _) | (with_reducible assumption) | (with_reducible refine below_drewN ?_ _) | (with_reducible refine Below.drew ?_) | (with_reducible refine Below.alloc ?_ ?_ _) | (with_reducible refine Below.setCell ?_ ?_ _) | (with_reducible refine Below.trans ?_ (Below.mono (by with_reducible assumption) ?_)) | go_size | (dsimp only; omega)))⟩
    cases e1 : ent q
    · go_enter Tryz.func68, Tryz.ntmps68
      go_wp2_with (go_at_call 90; refine (l01Entry_c _ _).mono ?_; rintro e w' ⟨rfl, rfl⟩)
      go_ret
      exact ⟨by simp [H.out], (by repeat' (first | (with_reducible exact Below.refl _ _) | (with_reducible assumption) | (with_reducible refine below_drewN ?_ _) | (with_reducible refine Below.drew ?_) | (with_reducible refine Below.alloc ?_ ?_ _) | (with_reducible refine Below.setCell ?_ ?_ _) | (with_reducible refine Below.trans ?_ (Below.mono (by with_reducible assumption) ?_)) | go_size | (dsimp only; omega)))⟩
    cases e2 : ent r
    · go_enter Tryz.func68, Tryz.ntmps68
      go_wp2_with (go_at_call 90; refine (l01Entry_c _ _).mono ?_; rintro e w' ⟨rfl, rfl⟩)
      go_ret
      exact ⟨by simp [H.out], (by repeat' (first | (with_reducible exact Below.refl _ _) | (with_reducible assumption) | (with_reducible refine below_drewN ?_ _) | (with_reducible refine Below.drew ?_) | (with_reducible refine Below.alloc ?_ ?_ _) | (with_reducible refine Below.setCell ?_ ?_ _) | (with_reducible refine Below.trans ?_ (Below.mono (by with_reducible assumption) ?_)) | go_size | (dsimp only; omega)))⟩
    · have e3 : ent s = false := by simpa [e0, e1, e2] using h1
      clear h1
      go_enter Tryz.func68, Tryz.ntmps68
      go_wp2_with (go_at_call 90; refine (l01Entry_c _ _).mono ?_; rintro e w' ⟨rfl, rfl⟩)
      go_ret
      exact ⟨by simp [H.out], (by repeat' (first | (with_reducible exact Below.refl _ _) | (with_reducible assumption) | (with_reducible refine below_drewN ?_ _) | (with_reducible refine Below.drew ?_) | (with_reducible refine Below.alloc ?_ ?_ _) | (with_reducible refine Below.setCell ?_ ?_ _) | (with_reducible refine Below.trans ?_ (Below.mono (by with_reducible assumption) ?_)) | go_size | (dsimp only; omega)))⟩
theorem sIsMatrix_c (p q r s : Int) (w : World) :
    Calls Tryz.prog 41 #[.agg #[.int .i64 p, .int .i64 q, .int .i64 r, .int .i64 s]] w fun e w' => e = .returned (.bool (isM p q r s)) ∧ Below w.heap.size w w' := by
  go_enter Tryz.func41, Tryz.ntmps41
  go_wp2_with (go_at_call 68; refine (l01Is_c _ _ _ _ _).mono ?_; rintro e w1 ⟨rfl, hb⟩)
  go_ret
  exact ⟨rfl, (by repeat' (first | (with_reducible exact Below.refl _ _) | (with_reducible assumption) | (with_reducible refine below_drewN ?_ _) | (with_reducible refine Below.drew ?_) | (with_reducible refine Below.alloc ?_ ?_ _) | (with_reducible refine Below.setCell ?_ ?_ _) | (with_reducible refine Below.trans ?_ (Below.mono (by with_reducible assumption) ?_)) | go_size | (dsimp only; omega)))⟩
end Go.Proofs.YtlkhhpckgcdeeaaGreatDoor
