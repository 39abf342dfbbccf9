/- Runs in plain Lean: they make their matrix, they are few, and a list of runs is that of its matrix. -/
import Derived.Test.YtgpnfjpnbchglaaGA
import Derived.Test.YtgpnfjpnbchglaaAI
import Derived.Test.YtgpnfjpnbchglaaRA
namespace Go.Proofs.Ytgpnfjpnbchglaa
open Go.RowKit
open Plain (Runs oft oft_spec rows_le det_up det_down)
set_option linter.unusedVariables false
set_option linter.unusedSimpArgs false
/-- the factors of a list of runs -/
def msB : Bool → List Int → List M4
  | _, [] => []
  | true, z :: l => ⟨1, z, 0, 1⟩ :: msB false l
  | false, z :: l => ⟨1, 0, z, 1⟩ :: msB true l
theorem msR_msB_at : ∀ (zs : List Int) (i : Nat), (zs.mapIdx fun j z => mR (j + i) z) = msB (decide (i % 2 = 0)) zs
  | [], i => by cases (decide (i % 2 = 0)) <;> rfl
  | z :: l, i => by
    rw [List.mapIdx_cons]
    have h := msR_msB_at l (i + 1)
    have e : (fun j z => mR (j + 1 + i) z) = (fun j z => mR (j + (i + 1)) z) := by funext j z; rw [show j + 1 + i = j + (i + 1) by omega]
    rw [e, h]
    rcases (show i % 2 = 0 ∨ i % 2 = 1 by omega) with h0 | h0
    · rw [show decide (i % 2 = 0) = true by simp [h0], show decide ((i + 1) % 2 = 0) = false by simp; omega, msB]
      simp [mR, h0]
    · rw [show decide (i % 2 = 0) = false by simp [h0], show decide ((i + 1) % 2 = 0) = true by simp; omega, msB]
      simp [mR, h0]
theorem msR_msB (zs : List Int) : msR zs = msB true zs := by
  have := msR_msB_at zs 0
  simpa [msR] using this
theorem runs_exact {t : Bool} {a b c d : Int} {zs : List Int} (h : Runs t a b c d zs) : exL (msB t zs) = ⟨a, b, c, d⟩ := by
  induction h with
  | stop t => cases t <;> rfl
  | up a b c d l _ _ ih =>
    show (⟨1, oft a b c d, 0, 1⟩ : M4).mul (exL (msB false l)) = _
    rw [ih]
    apply M4.eq_of <;> simp only [M4.mul] <;> omega
  | down a b c d l _ _ ih =>
    show (⟨1, 0, oft c d a b, 1⟩ : M4).mul (exL (msB true l)) = _
    rw [ih]
    apply M4.eq_of <;> simp only [M4.mul] <;> omega
/-- the row that is lowered next is the greater one -/
def Dom (t : Bool) (a b c d : Int) : Prop := if t = true then c ≤ a ∧ d ≤ b else a ≤ c ∧ b ≤ d
theorem oft_one {a b c d : Int} (ha : 0 ≤ a) (hb : 0 ≤ b) (hc : 0 ≤ c) (hd : 0 ≤ d) (hz : ¬ (c = 0 ∧ d = 0)) (h : c ≤ a ∧ d ≤ b) : 1 ≤ oft a b c d := by
  obtain ⟨h0, h1, h2, h3⟩ := oft_spec ha hb hc hd hz
  rcases Int.lt_or_le (oft a b c d) 1 with hl | hl
  · exfalso
    have e : oft a b c d = 0 := by omega
    rw [e] at h3; simp at h3; omega
  · exact hl
theorem oft_le {a b c d : Int} (ha : 0 ≤ a) (hb : 0 ≤ b) (hc : 0 ≤ c) (hd : 0 ≤ d) (hz : ¬ (c = 0 ∧ d = 0)) {N : Int} (h1 : a ≤ N) (h2 : b ≤ N) : oft a b c d ≤ N := by
  obtain ⟨h0, h3, h4, h5⟩ := oft_spec ha hb hc hd hz
  rcases (show 1 ≤ c ∨ 1 ≤ d by omega) with h | h
  · have := Int.mul_le_mul_of_nonneg_left h h0
    omega
  · have := Int.mul_le_mul_of_nonneg_left h h0
    omega
theorem oft_unique {a b c d k : Int} (hc : 0 ≤ c) (hd : 0 ≤ d) (hz : ¬ (c = 0 ∧ d = 0)) (hk : 0 ≤ k) (h1 : 0 ≤ a - k * c) (h2 : 0 ≤ b - k * d) (h3 : ¬ (c ≤ a - k * c ∧ d ≤ b - k * d)) : oft a b c d = k := by
  have p1 := Int.mul_nonneg hk hc
  have p2 := Int.mul_nonneg hk hd
  obtain ⟨g0, g1, g2, g3⟩ := oft_spec (show 0 ≤ a by omega) (show 0 ≤ b by omega) hc hd hz
  generalize oft a b c d = m at *
  rcases Int.lt_trichotomy m k with h | h | h
  · exfalso
    have e1 := Int.mul_le_mul_of_nonneg_right (show m + 1 ≤ k by omega) hc
    have e2 := Int.mul_le_mul_of_nonneg_right (show m + 1 ≤ k by omega) hd
    rw [Int.add_mul] at e1 e2
    exact g3 ⟨by omega, by omega⟩
  · exact h
  · exfalso
    have e1 := Int.mul_le_mul_of_nonneg_right (show k + 1 ≤ m by omega) hc
    have e2 := Int.mul_le_mul_of_nonneg_right (show k + 1 ≤ m by omega) hd
    rw [Int.add_mul] at e1 e2
    exact h3 ⟨by omega, by omega⟩
theorem row_nz {a b c d : Int} (h : a * d - b * c = 1) : ¬ (c = 0 ∧ d = 0) ∧ ¬ (a = 0 ∧ b = 0) := by
  constructor
  · rintro ⟨rfl, rfl⟩; simp at h
  · rintro ⟨rfl, rfl⟩; simp at h
theorem runs_dom {t : Bool} {a b c d : Int} {zs : List Int} (h : Runs t a b c d zs) (N : Int) : 0 ≤ a → 0 ≤ b → 0 ≤ c → 0 ≤ d → a * d - b * c = 1 → a ≤ N → b ≤ N → c ≤ N → d ≤ N → ((a = 1 ∧ b = 0 ∧ c = 0 ∧ d = 1) ∨ Dom t a b c d) →
    (∀ z ∈ zs, 1 ≤ z ∧ z ≤ N) ∧ ∀ k : Nat, ((if t = true then a + b else c + d) < 2 ^ k → zs.length ≤ 2 * k) ∧ ((if t = true then c + d else a + b) < 2 ^ k → zs.length ≤ 2 * k + 1) := by
  induction h with
  | stop t => intros; exact ⟨by simp, fun k => ⟨by simp, by simp⟩⟩
  | up a b c d l hi h2 ih =>
    intro ha hb hc hd hdet hN1 hN2 hN3 hN4 hD
    obtain ⟨nz, -⟩ := row_nz hdet
    have hD' : c ≤ a ∧ d ≤ b := by
      rcases hD with h | h
      · exact absurd h hi
      · simpa [Dom] using h
    have h1 := oft_one ha hb hc hd nz hD'
    have hle := oft_le ha hb hc hd nz hN1 hN2
    obtain ⟨g0, g1, g2, g3⟩ := oft_spec ha hb hc hd nz
    have hdet' := det_up (oft a b c d) hdet
    generalize oft a b c d = z at *
    have p1 := Int.mul_le_mul_of_nonneg_right h1 hc
    have p2 := Int.mul_le_mul_of_nonneg_right h1 hd
    have hD2 : (a - z * c = 1 ∧ b - z * d = 0 ∧ c = 0 ∧ d = 1) ∨ Dom false (a - z * c) (b - z * d) c d := by
      by_cases hi2 : a - z * c = 1 ∧ b - z * d = 0 ∧ c = 0 ∧ d = 1
      · exact .inl hi2
      · right
        rcases rows_le g1 g2 hc hd hdet' hi2 with h | h
        · exact absurd h g3
        · simpa [Dom] using h
    obtain ⟨i1, i2⟩ := ih g1 g2 hc hd hdet' (by omega) (by omega) hN3 hN4 hD2
    refine ⟨fun x hx => ?_, fun k => ⟨fun hlt => ?_, fun hlt => ?_⟩⟩
    · rcases List.mem_cons.mp hx with rfl | hx
      · exact ⟨h1, hle⟩
      · exact i1 x hx
    · simp only [if_true] at hlt
      have hsm : a - z * c + (b - z * d) ≤ c + d := by
        rcases hD2 with h | h
        · omega
        · simp [Dom] at h; omega
      match k with
      | 0 => exfalso; simp at hlt; omega
      | k + 1 =>
        have := (i2 k).2 (by simp only [Bool.false_eq_true, if_false]; rw [Int.pow_succ] at hlt; omega)
        simp only [List.length_cons]; omega
    · simp only [if_true] at hlt
      have := (i2 k).1 (by simpa using hlt)
      simp only [List.length_cons]; omega
  | down a b c d l hi h2 ih =>
    intro ha hb hc hd hdet hN1 hN2 hN3 hN4 hD
    obtain ⟨-, nz⟩ := row_nz hdet
    have hD' : a ≤ c ∧ b ≤ d := by
      rcases hD with h | h
      · exact absurd h hi
      · simpa [Dom] using h
    have h1 := oft_one hc hd ha hb nz hD'
    have hle := oft_le hc hd ha hb nz hN3 hN4
    obtain ⟨g0, g1, g2, g3⟩ := oft_spec hc hd ha hb nz
    have hdet' := det_down (oft c d a b) hdet
    generalize oft c d a b = z at *
    have p1 := Int.mul_le_mul_of_nonneg_right h1 ha
    have p2 := Int.mul_le_mul_of_nonneg_right h1 hb
    have hD2 : (a = 1 ∧ b = 0 ∧ c - z * a = 0 ∧ d - z * b = 1) ∨ Dom true a b (c - z * a) (d - z * b) := by
      by_cases hi2 : a = 1 ∧ b = 0 ∧ c - z * a = 0 ∧ d - z * b = 1
      · exact .inl hi2
      · right
        rcases rows_le ha hb g1 g2 hdet' hi2 with h | h
        · simpa [Dom] using h
        · exact absurd h g3
    obtain ⟨i1, i2⟩ := ih ha hb g1 g2 hdet' hN1 hN2 (by omega) (by omega) hD2
    refine ⟨fun x hx => ?_, fun k => ⟨fun hlt => ?_, fun hlt => ?_⟩⟩
    · rcases List.mem_cons.mp hx with rfl | hx
      · exact ⟨h1, hle⟩
      · exact i1 x hx
    · simp only [Bool.false_eq_true, if_false] at hlt
      have hsm : c - z * a + (d - z * b) ≤ a + b := by
        rcases hD2 with h | h
        · omega
        · simp [Dom] at h; omega
      match k with
      | 0 => exfalso; simp at hlt; omega
      | k + 1 =>
        have := (i2 k).2 (by simp only [if_true]; rw [Int.pow_succ] at hlt; omega)
        simp only [List.length_cons]; omega
    · simp only [Bool.false_eq_true, if_false] at hlt
      have := (i2 k).1 (by simpa using hlt)
      simp only [List.length_cons]; omega
theorem forall_getD {zs : List Int} {P : Int → Prop} (h : ∀ z ∈ zs, P z) : ∀ i, i < zs.length → P (zs.getD i 0) := by
  intro i hi
  have : zs.getD i 0 = zs[i] := by simp [List.getD, hi]
  rw [this]; exact h _ (List.getElem_mem hi)
/-- the runs of a matrix are a list that MatrixOfRuns takes -/
theorem runs_OkR {a b c d : Int} {zs : List Int} (h : Runs true a b c d zs) (hm : isM a b c d = true) (hp : posM a b c d = true) : OkR zs := by
  obtain ⟨⟨a0, a1⟩, ⟨b0, b1⟩, ⟨c0, c1⟩, ⟨d0, d1⟩, hdet⟩ := isM_pos hm hp
  by_cases hD : (a = 1 ∧ b = 0 ∧ c = 0 ∧ d = 1) ∨ Dom true a b c d
  · obtain ⟨h1, h2⟩ := runs_dom h 1000000000 a0 b0 c0 d0 hdet a1 b1 c1 d1 hD
    have := (h2 31).1 (by simp only [if_true]; omega)
    refine ⟨by omega, fun i hi => ?_⟩
    have h3 := forall_getD (P := fun z => 1 ≤ z ∧ z ≤ 1000000000) h1 i hi
    exact ⟨by omega, fun e => by omega⟩
  · have hi : ¬ (a = 1 ∧ b = 0 ∧ c = 0 ∧ d = 1) := fun e => hD (.inl e)
    have hnd : ¬ (c ≤ a ∧ d ≤ b) := fun e => hD (.inr (by simpa [Dom] using e))
    obtain ⟨l, rfl, h2⟩ := h.inv_up rfl hi
    obtain ⟨nz, -⟩ := row_nz hdet
    have e0 : oft a b c d = 0 := oft_unique c0 d0 nz (by omega) (by omega) (by omega) (by simpa using hnd)
    rw [e0] at h2 ⊢
    rw [Int.zero_mul, Int.zero_mul, Int.sub_zero, Int.sub_zero] at h2
    have hD2 : Dom false a b c d := by
      rcases rows_le a0 b0 c0 d0 hdet hi with h | h
      · exact absurd h hnd
      · simpa [Dom] using h
    obtain ⟨h3, h4⟩ := runs_dom h2 1000000000 a0 b0 c0 d0 hdet a1 b1 c1 d1 (.inr hD2)
    have := (h4 31).1 (by simp only [Bool.false_eq_true, if_false]; omega)
    refine ⟨by simp only [List.length_cons]; omega, fun i hi' => ?_⟩
    match i with
    | 0 =>
      refine ⟨by simp, fun _ => ⟨rfl, ?_⟩⟩
      intro e
      have : l = [] := by simpa using e
      rw [this] at h2
      cases h2
      exact hi (by simp)
    | i + 1 =>
      have h5 := forall_getD (P := fun z => 1 ≤ z ∧ z ≤ 1000000000) h3 i (by simpa using hi')
      show okR (0 :: l) (i + 1)
      have e : (0 :: l).getD (i + 1) 0 = l.getD i 0 := by simp [List.getD]
      unfold okR
      rw [e]
      exact ⟨by omega, fun e => by omega⟩
theorem mR_pos {i : Nat} {z : Int} (h : 0 ≤ z) : (mR i z).pos ∧ (mR i z).det = 1 := by
  unfold mR M4.pos M4.det
  split <;> simp <;> omega
theorem msB_pos : ∀ (t : Bool) (zs : List Int), (∀ z ∈ zs, 0 ≤ z) → ∀ m ∈ msB t zs, m.pos ∧ m.det = 1
  | true, [], _, m, hm => by simp [msB] at hm
  | false, [], _, m, hm => by simp [msB] at hm
  | true, z :: l, h, m, hm => by
    rw [msB] at hm
    have hz := h z (by simp)
    rcases List.mem_cons.mp hm with rfl | hm
    · unfold M4.pos M4.det; simp; omega
    · exact msB_pos false l (fun x hx => h x (by simp [hx])) m hm
  | false, z :: l, h, m, hm => by
    rw [msB] at hm
    have hz := h z (by simp)
    rcases List.mem_cons.mp hm with rfl | hm
    · unfold M4.pos M4.det; simp; omega
    · exact msB_pos true l (fun x hx => h x (by simp [hx])) m hm
theorem OkR_nonneg {zs : List Int} (h : OkR zs) : ∀ z ∈ zs, 0 ≤ z := by
  intro z hz
  obtain ⟨i, hi, rfl⟩ := List.mem_iff_getElem.mp hz
  have := (h.2 i hi).1.1
  simpa [List.getD, hi] using this
/-- a matrix comes back from its runs -/
theorem runs_back {a b c d : Int} {zs : List Int} (h : Runs true a b c d zs) (hm : isM a b c d = true) (hp : posM a b c d = true) : runsV zs = .tuple #[.agg #[.int .i64 a, .int .i64 b, .int .i64 c, .int .i64 d], .int .i64 0] := by
  have hO := runs_OkR h hm hp
  rw [runsV_yes hO, msR_msB]
  have he := runs_exact h
  have h1 := prodL_pos (msB true zs) M4.I I_pos (msB_pos true zs (OkR_nonneg hO)) (by rw [M4.I_mul, he]; exact (isM_to hm).1)
  rw [h1, M4.I_mul, he]; rfl
/-- what is there to know of the exact product of a list of runs -/
theorem runs_of_list : ∀ (t : Bool) (l : List Int), (∀ z ∈ l, 1 ≤ z) → Runs t (exL (msB t l)).a (exL (msB t l)).b (exL (msB t l)).c (exL (msB t l)).d l ∧ (l ≠ [] → Dom t (exL (msB t l)).a (exL (msB t l)).b (exL (msB t l)).c (exL (msB t l)).d ∧ ¬ ((exL (msB t l)).a = 1 ∧ (exL (msB t l)).b = 0 ∧ (exL (msB t l)).c = 0 ∧ (exL (msB t l)).d = 1))
  | true, [], _ => ⟨.stop true, fun h => absurd rfl h⟩
  | false, [], _ => ⟨.stop false, fun h => absurd rfl h⟩
  | true, z :: l, h => by
    obtain ⟨h1, h2⟩ := runs_of_list false l (fun x hx => h x (by simp [hx]))
    have hz := h z (by simp)
    have hpd := msB_pos false l (fun x hx => by have := h x (by simp [hx]); omega)
    have hp := exL_pos _ (fun x hx => (hpd x hx).1)
    have hd := exL_det _ (fun x hx => (hpd x hx).2)
    have e : exL (msB true (z :: l)) = (⟨1, z, 0, 1⟩ : M4).mul (exL (msB false l)) := rfl
    have hI : l = [] → exL (msB false l) = M4.I := fun e => by rw [e]; rfl
    rw [e]
    generalize exL (msB false l) = m at *
    obtain ⟨p1, p2, p3, p4⟩ := hp
    have hdet : m.a * m.d - m.b * m.c = 1 := hd
    obtain ⟨nz, nz'⟩ := row_nz hdet
    have ea : ((⟨1, z, 0, 1⟩ : M4).mul m).a = m.a + z * m.c := by simp [M4.mul]
    have eb : ((⟨1, z, 0, 1⟩ : M4).mul m).b = m.b + z * m.d := by simp [M4.mul]
    have ec : ((⟨1, z, 0, 1⟩ : M4).mul m).c = m.c := by simp [M4.mul]
    have ed : ((⟨1, z, 0, 1⟩ : M4).mul m).d = m.d := by simp [M4.mul]
    rw [ea, eb, ec, ed]
    have q1 := Int.mul_le_mul_of_nonneg_right hz p3
    have q2 := Int.mul_le_mul_of_nonneg_right hz p4
    have hnd : ¬ (m.c ≤ m.a ∧ m.d ≤ m.b) := by
      by_cases hl : l = []
      · rw [hI hl]; simp [M4.I]
      · have hD := (h2 hl).1
        simp [Dom] at hD
        rintro ⟨g1, g2⟩
        have e1 : m.c = m.a := by omega
        have e2 : m.d = m.b := by omega
        rw [e1, e2, Int.mul_comm] at hdet
        omega
    have ho : oft (m.a + z * m.c) (m.b + z * m.d) m.c m.d = z := oft_unique p3 p4 nz (by omega) (by omega) (by omega) (by
      rintro ⟨g1, g2⟩; exact hnd ⟨by omega, by omega⟩)
    have hni : ¬ (m.a + z * m.c = 1 ∧ m.b + z * m.d = 0 ∧ m.c = 0 ∧ m.d = 1) := by
      rintro ⟨g1, g2, g3, g4⟩
      rw [g4] at g2 q2; omega
    refine ⟨?_, fun _ => ⟨by simp [Dom]; omega, hni⟩⟩
    have := Runs.up (m.a + z * m.c) (m.b + z * m.d) m.c m.d l hni (by rw [ho, show m.a + z * m.c - z * m.c = m.a by omega, show m.b + z * m.d - z * m.d = m.b by omega]; exact h1)
    rw [ho] at this
    exact this
  | false, z :: l, h => by
    obtain ⟨h1, h2⟩ := runs_of_list true l (fun x hx => h x (by simp [hx]))
    have hz := h z (by simp)
    have hpd := msB_pos true l (fun x hx => by have := h x (by simp [hx]); omega)
    have hp := exL_pos _ (fun x hx => (hpd x hx).1)
    have hd := exL_det _ (fun x hx => (hpd x hx).2)
    have e : exL (msB false (z :: l)) = (⟨1, 0, z, 1⟩ : M4).mul (exL (msB true l)) := rfl
    have hI : l = [] → exL (msB true l) = M4.I := fun e => by rw [e]; rfl
    rw [e]
    generalize exL (msB true l) = m at *
    obtain ⟨p1, p2, p3, p4⟩ := hp
    have hdet : m.a * m.d - m.b * m.c = 1 := hd
    obtain ⟨nz', nz⟩ := row_nz hdet
    have ea : ((⟨1, 0, z, 1⟩ : M4).mul m).a = m.a := by simp [M4.mul]
    have eb : ((⟨1, 0, z, 1⟩ : M4).mul m).b = m.b := by simp [M4.mul]
    have ec : ((⟨1, 0, z, 1⟩ : M4).mul m).c = m.c + z * m.a := by simp [M4.mul]; omega
    have ed : ((⟨1, 0, z, 1⟩ : M4).mul m).d = m.d + z * m.b := by simp [M4.mul]; omega
    rw [ea, eb, ec, ed]
    have q1 := Int.mul_le_mul_of_nonneg_right hz p1
    have q2 := Int.mul_le_mul_of_nonneg_right hz p2
    have hnd : ¬ (m.a ≤ m.c ∧ m.b ≤ m.d) := by
      by_cases hl : l = []
      · rw [hI hl]; simp [M4.I]
      · have hD := (h2 hl).1
        simp [Dom] at hD
        rintro ⟨g1, g2⟩
        have e1 : m.c = m.a := by omega
        have e2 : m.d = m.b := by omega
        rw [e1, e2, Int.mul_comm] at hdet
        omega
    have ho : oft (m.c + z * m.a) (m.d + z * m.b) m.a m.b = z := oft_unique p1 p2 nz (by omega) (by omega) (by omega) (by
      rintro ⟨g1, g2⟩; exact hnd ⟨by omega, by omega⟩)
    have hni : ¬ (m.a = 1 ∧ m.b = 0 ∧ m.c + z * m.a = 0 ∧ m.d + z * m.b = 1) := by
      rintro ⟨g1, g2, g3, g4⟩
      rw [g1] at g3 q1; omega
    refine ⟨?_, fun _ => ⟨by simp [Dom]; omega, hni⟩⟩
    have := Runs.down m.a m.b (m.c + z * m.a) (m.d + z * m.b) l hni (by rw [ho, show m.c + z * m.a - z * m.a = m.c by omega, show m.d + z * m.b - z * m.b = m.d by omega]; exact h1)
    rw [ho] at this
    exact this
/-- a list of runs is that of its matrix -/
theorem list_back {zs : List Int} {m : M4} (hO : OkR zs) (h : prodL M4.I (msR zs) = some m) : isM m.a m.b m.c m.d = true ∧ posM m.a m.b m.c m.d = true ∧ Runs true m.a m.b m.c m.d zs := by
  have he := prodL_exact _ _ _ h
  have hent := prodL_ent _ _ _ I_ent h
  rw [M4.I_mul, msR_msB] at he
  have hpd := msB_pos true zs (OkR_nonneg hO)
  have hp := exL_pos _ (fun x hx => (hpd x hx).1)
  have hd := exL_det _ (fun x hx => (hpd x hx).2)
  rw [← he] at hp hd
  refine ⟨isM_of hent hd, ?_, ?_⟩
  · obtain ⟨p1, p2, p3, p4⟩ := hp
    simp only [posM, decide_eq_true_eq]
    omega
  · by_cases h1 : ∀ z ∈ zs, 1 ≤ z
    · have := (runs_of_list true zs h1).1
      rw [← he] at this; exact this
    · -- the first number is 0
      cases zs with
      | nil => exact absurd (by simp) h1
      | cons z l =>
        have hl : ∀ x ∈ l, 1 ≤ x := by
          intro x hx
          obtain ⟨i, hi, rfl⟩ := List.mem_iff_getElem.mp hx
          have h2 := hO.2 (i + 1) (by simpa using hi)
          have e : (z :: l).getD (i + 1) 0 = l[i] := by simp [List.getD, hi]
          unfold okR at h2
          rw [e] at h2
          rcases Int.lt_or_le l[i] 1 with hlt | hlt
          · have := (h2.2 (by omega)).1; omega
          · exact hlt
        have hz0 : z = 0 := by
          have h2 := (hO.2 0 (by simp)).1.1
          simp at h2
          rcases Int.lt_or_le z 1 with hlt | hlt
          · omega
          · exfalso; apply h1; intro x hx
            rcases List.mem_cons.mp hx with rfl | hx
            · exact hlt
            · exact hl x hx
        subst hz0
        have hne : l ≠ [] := by
          intro e
          have := ((hO.2 0 (by simp)).2 (by simp)).2
          rw [e] at this; simp at this
        obtain ⟨g1, g2⟩ := runs_of_list false l hl
        obtain ⟨g3, g4⟩ := g2 hne
        have e2 : m = exL (msB false l) := by
          rw [he, show exL (msB true (0 :: l)) = (⟨1, 0, 0, 1⟩ : M4).mul (exL (msB false l)) from rfl, show (⟨1, 0, 0, 1⟩ : M4) = M4.I from rfl, M4.I_mul]
        rw [← e2] at g1 g3 g4
        obtain ⟨p1, p2, p3, p4⟩ := hp
        have hdet : m.a * m.d - m.b * m.c = 1 := hd
        obtain ⟨nz, nz'⟩ := row_nz hdet
        have hnd : ¬ (m.c ≤ m.a ∧ m.d ≤ m.b) := by
          simp [Dom] at g3
          rintro ⟨k1, k2⟩
          have e1 : m.c = m.a := by omega
          have e2 : m.d = m.b := by omega
          rw [e1, e2, Int.mul_comm] at hdet
          omega
        have ho : oft m.a m.b m.c m.d = 0 := oft_unique p3 p4 nz (by omega) (by omega) (by omega) (by simpa using hnd)
        have := Runs.up m.a m.b m.c m.d l g4 (by rw [ho, Int.zero_mul, Int.zero_mul, Int.sub_zero, Int.sub_zero]; exact g1)
        rw [ho] at this
        exact this
/-- the letters of the runs -/
theorem tw_exact : ∀ (z : Nat) (i : Nat), exL ((List.replicate z (if i % 2 = 0 then (84 : UInt8) else 76)).map letM) = (if i % 2 = 0 then ⟨1, z, 0, 1⟩ else ⟨1, 0, z, 1⟩ : M4)
  | 0, i => by split <;> rfl
  | z + 1, i => by
    rw [List.replicate_succ, List.map_cons]
    show (letM _).mul (exL _) = _
    rw [tw_exact z i]
    split
    · rw [show letM 84 = ⟨1, 1, 0, 1⟩ from rfl]
      apply M4.eq_of <;> simp [M4.mul]
    · rw [show letM 76 = ⟨1, 0, 1, 1⟩ from rfl]
      apply M4.eq_of <;> simp [M4.mul]; omega
end Go.Proofs.Ytgpnfjpnbchglaa
