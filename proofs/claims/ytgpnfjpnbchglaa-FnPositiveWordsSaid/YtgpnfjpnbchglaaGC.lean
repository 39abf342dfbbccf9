/- Chains and words in plain Lean: they make their matrix. -/
import Derived.Test.YtgpnfjpnbchglaaGB
import Derived.Test.YtgpnfjpnbchglaaAE
import Derived.Test.YtgpnfjpnbchglaaAS
namespace Go.Proofs.Ytgpnfjpnbchglaa
open Go.RowKit
open Plain (flo Chain round_bd round_det round_d)
set_option linter.unusedVariables false
set_option linter.unusedSimpArgs false
/-- the factors of a chain behind the sign -/
def chC : List Int → List M4
  | [] => []
  | [z] => [mT z]
  | z :: y :: l => mT z :: mS :: chC (y :: l)
theorem chC_snoc : ∀ (l : List Int) (z : Int), chC (l ++ [z]) = if l = [] then [mT z] else chC l ++ [mS, mT z]
  | [], z => rfl
  | [y], z => rfl
  | x :: y :: l, z => by
    have h := chC_snoc (y :: l) z
    rw [if_neg (by simp)] at h ⊢
    show mT x :: mS :: chC ((y :: l) ++ [z]) = (mT x :: mS :: chC (y :: l)) ++ [mS, mT z]
    rw [h]; rfl
theorem cC_chC (sg : Int) (zs : List Int) : ∀ k, k ≤ zs.length → cC sg zs k = ⟨sg, 0, 0, sg⟩ :: chC (zs.take k)
  | 0, _ => rfl
  | k + 1, h => by
    have hk : k < zs.length := by omega
    rw [cC, cC_chC sg zs k (by omega), List.take_succ_eq_append_getElem hk, chC_snoc]
    have e : zs.getD k 0 = zs[k] := by simp [List.getD, hk]
    rw [e]
    by_cases h0 : k = 0
    · subst h0; simp [chC]
    · rw [if_neg h0, if_neg (by
        intro he
        have := congrArg List.length he
        rw [List.length_take, List.length_nil] at this; omega)]
      rfl
theorem one_cases {a d : Int} (h : a * d = 1) : (a = 1 ∧ d = 1) ∨ (a = -1 ∧ d = -1) := by
  have h1 : a.natAbs * d.natAbs = 1 := by rw [← Int.natAbs_mul, h]; rfl
  have h2 : a.natAbs = 1 := Nat.eq_one_of_mul_eq_one_right h1
  have h3 : d.natAbs = 1 := Nat.eq_one_of_mul_eq_one_left h1
  rcases (show a = 1 ∨ a = -1 by omega) with rfl | rfl
  · left; omega
  · right; omega
theorem sgn_comm (s z : Int) (x : M4) : (⟨s, 0, 0, s⟩ : M4).mul ((mT z).mul (mS.mul x)) = (mT z).mul (mS.mul ((⟨s, 0, 0, s⟩ : M4).mul x)) := by
  apply M4.eq_of <;> simp only [M4.mul, mT, mS] <;> grind
theorem chain_exact {a b c d s : Int} {l : List Int} (h : Chain a b c d s l) : a * d - b * c = 1 → (s = 1 ∨ s = -1) ∧ l ≠ [] ∧ (⟨s, 0, 0, s⟩ : M4).mul (exL (chC l)) = ⟨a, b, c, d⟩ := by
  induction h with
  | stop a b d =>
    intro hd
    have h1 := one_cases (a := a) (d := d) (by simpa using hd)
    refine ⟨by omega, by simp, ?_⟩
    show (⟨a, 0, 0, a⟩ : M4).mul ((mT (a * b)).mul M4.I) = _
    rw [M4.mul_I]
    rcases h1 with ⟨rfl, rfl⟩ | ⟨rfl, rfl⟩
    · apply M4.eq_of <;> simp [M4.mul, mT]
    · apply M4.eq_of <;> simp [M4.mul, mT]
  | step a b c d s l hc h2 ih =>
    intro hd
    obtain ⟨i1, i2, i3⟩ := ih (round_det a b c d _ hd)
    refine ⟨i1, by simp, ?_⟩
    match l, i2 with
    | y :: l, _ =>
      show (⟨s, 0, 0, s⟩ : M4).mul ((mT _).mul (mS.mul (exL (chC (y :: l))))) = _
      rw [sgn_comm, i3]
      apply M4.eq_of <;> simp only [M4.mul, mT, mS, Int.one_mul, Int.zero_mul, Int.add_zero, Int.zero_add, Int.neg_mul] <;> omega
theorem chain_len {a b c d s : Int} {l : List Int} (h : Chain a b c d s l) : ∀ k : Nat, c.natAbs < 2 ^ k → l.length ≤ k + 1 := by
  induction h with
  | stop a b d => intro k _; simp
  | step a b c d s l hc h2 ih =>
    intro k hk
    have hb := round_bd a c hc
    match k with
    | 0 => exfalso; simp at hk; omega
    | k + 1 =>
      have := ih k (by rw [Nat.pow_succ] at hk; omega)
      simp only [List.length_cons]; omega
theorem round_ent {a c z : Int} (hc : c ≠ 0) (h1 : 2 * (z * c - a) ≤ c.natAbs) (h2 : -(c.natAbs : Int) ≤ 2 * (z * c - a)) (ha0 : -1000000000 ≤ a) (ha1 : a ≤ 1000000000) : ent z = true := by
  apply ent_iff.mpr
  rcases Int.lt_or_gt_of_ne hc with h | h
  · constructor
    · apply Int.not_lt.mp; intro hl
      have := Int.mul_le_mul_of_nonpos_right (show z ≤ -1000000001 by omega) (show c ≤ 0 by omega)
      omega
    · apply Int.not_lt.mp; intro hl
      have := Int.mul_le_mul_of_nonpos_right (show 1000000001 ≤ z by omega) (show c ≤ 0 by omega)
      omega
  · constructor
    · apply Int.not_lt.mp; intro hl
      have := Int.mul_le_mul_of_nonneg_right (show z ≤ -1000000001 by omega) (show 0 ≤ c by omega)
      omega
    · apply Int.not_lt.mp; intro hl
      have := Int.mul_le_mul_of_nonneg_right (show 1000000001 ≤ z by omega) (show 0 ≤ c by omega)
      omega
theorem chain_ent {a b c d s : Int} {l : List Int} (h : Chain a b c d s l) : isM a b c d = true → ∀ z ∈ l, ent z = true := by
  induction h with
  | stop a b d =>
    intro hm z hz
    obtain ⟨⟨a0, a1⟩, ⟨b0, b1⟩, -, -, hd⟩ := isM_iff.mp hm
    have h1 := one_cases (a := a) (d := d) (by simpa using hd)
    simp at hz
    subst hz
    apply ent_iff.mpr
    rcases h1 with ⟨rfl, rfl⟩ | ⟨rfl, rfl⟩ <;> omega
  | step a b c d s l hc h2 ih =>
    intro hm z hz
    obtain ⟨⟨a0, a1⟩, ⟨b0, b1⟩, ⟨c0, c1⟩, ⟨d0, d1⟩, hd⟩ := isM_iff.mp hm
    have hb := round_bd a c hc
    have hdet := round_det a b c d (flo (2 * a + c) (2 * c)) hd
    have hdd := round_d c d _ _ hc hb.1 hb.2 hdet d0 d1
    rcases List.mem_cons.mp hz with rfl | hz
    · exact round_ent hc hb.1 hb.2 a0 a1
    · exact ih (isM_iff.mpr ⟨⟨c0, c1⟩, ⟨d0, d1⟩, by omega, hdd, hdet⟩) z hz
theorem round_two {a c z : Int} (h0 : 2 * (c.natAbs : Int) ≤ a.natAbs) (hc : c ≠ 0) (h1 : 2 * (z * c - a) ≤ c.natAbs) (h2 : -(c.natAbs : Int) ≤ 2 * (z * c - a)) : z ≤ -2 ∨ 2 ≤ z := by
  rcases (show z ≤ -2 ∨ 2 ≤ z ∨ z = -1 ∨ z = 0 ∨ z = 1 by omega) with h | h | rfl | rfl | rfl <;> omega
theorem chain_mid {a b c d s : Int} {l : List Int} (h : Chain a b c d s l) : 2 * (c.natAbs : Int) ≤ a.natAbs → ∀ i, i + 1 < l.length → l.getD i 0 ≤ -2 ∨ 2 ≤ l.getD i 0 := by
  induction h with
  | stop a b d => intro _ i hi; simp at hi
  | step a b c d s l hc h2 ih =>
    intro h0 i hi
    have hb := round_bd a c hc
    match i with
    | 0 => exact round_two h0 hc hb.1 hb.2
    | i + 1 =>
      have := ih (by omega) i (by simpa using hi)
      simpa [List.getD] using this
/-- inside a chain there are no small numbers -/
theorem chain_inner {a b c d s : Int} {l : List Int} (h : Chain a b c d s l) : ∀ i, 1 ≤ i → i + 1 < l.length → l.getD i 0 ≤ -2 ∨ 2 ≤ l.getD i 0 := by
  cases h with
  | stop => intro i _ hi; simp at hi
  | step _ _ _ _ _ l hc h2 =>
    intro i h1 hi
    have hb := round_bd a c hc
    match i, h1 with
    | i + 1, _ =>
      have := chain_mid h2 (by omega) i (by simpa using hi)
      simpa [List.getD] using this
theorem chain_OkC {a b c d s : Int} {l : List Int} (h : Chain a b c d s l) (hm : isM a b c d = true) : OkC s l := by
  obtain ⟨-, -, ⟨c0, c1⟩, -, hd⟩ := isM_iff.mp hm
  obtain ⟨h1, h2, -⟩ := chain_exact h hd
  have h3 := chain_len h 30 (by omega)
  have h4 : 0 < l.length := List.length_pos_iff.mpr h2
  exact ⟨h1, h4, by omega, forall_getD (P := fun z => ent z = true) (chain_ent h hm)⟩
/-- a matrix comes back from its chain, where no number is too great on the way; that of the identity always -/
theorem chain_back {a b c d s : Int} {l : List Int} (h : Chain a b c d s l) (hm : isM a b c d = true) : chainV s l = .tuple #[.agg #[.int .i64 a, .int .i64 b, .int .i64 c, .int .i64 d], .int .i64 0] ∨ (chainV s l = .tuple #[.agg #[.int .i64 0, .int .i64 0, .int .i64 0, .int .i64 0], .int .i64 3] ∧ ¬ (a = 1 ∧ b = 0 ∧ c = 0 ∧ d = 1)) := by
  have hO := chain_OkC h hm
  obtain ⟨-, -, -, -, hd⟩ := isM_iff.mp hm
  obtain ⟨-, -, he⟩ := chain_exact h hd
  rw [chainV_yes hO]
  cases hp : prodL M4.I (cC s l l.length) with
  | some x =>
    left
    have h1 := prodL_exact _ _ _ hp
    rw [cC_chC s l l.length (Nat.le_refl _), List.take_length, M4.I_mul] at h1
    have h2 : x = ⟨a, b, c, d⟩ := h1.trans he
    rw [h2]; rfl
  | none =>
    right
    refine ⟨rfl, ?_⟩
    rintro ⟨rfl, rfl, rfl, rfl⟩
    cases h with
    | stop => 
      have : prodL M4.I (cC 1 [1 * 0] 1) = some M4.I := by rfl
      rw [show ([1 * 0] : List Int).length = 1 from rfl, this] at hp
      cases hp
    | step _ _ _ _ _ _ hc _ => exact hc rfl
theorem letM_det {b : UInt8} (h : isT b = true) : (letM b).det = 1 ∧ (letM b).ent = true := by
  rcases isT_iff.mp h with h | h | h | h | h <;> subst h <;> decide
theorem letters_det {l : List UInt8} (h : l.all isT = true) : ∀ m ∈ l.map letM, m.det = 1 := by
  intro m hm
  obtain ⟨b, hb, rfl⟩ := List.mem_map.mp hm
  exact (letM_det (List.all_eq_true.mp h b hb)).1
theorem prodL_split {l1 l2 : List M4} {x : M4} (h : prodL M4.I (l1 ++ l2) = some x) : ∃ y, prodL M4.I l1 = some y := by
  rw [prodL_append] at h
  cases hp : prodL M4.I l1 with
  | some y => exact ⟨y, rfl⟩
  | none => rw [hp] at h; cases h
/-- a word that has a matrix: its halves -/
theorem word_half {s s1 s2 : ByteArray} {m : M4} (h : wordV s = .tuple #[m.v, .int .i64 0]) (hs : s.data.toList = s1.data.toList ++ s2.data.toList) (hz : s.size = s1.size + s2.size) :
    ∃ x : M4, wordV s1 = .tuple #[x.v, .int .i64 0] ∧ isM x.a x.b x.c x.d = true ∧ (∀ y : M4, wordV s2 = .tuple #[y.v, .int .i64 0] → isM y.a y.b y.c y.d = true ∧ prodL M4.I [x, y] = some m) := by
  unfold wordV at h
  by_cases hc : (s.data.toList.all isT && decide (s.size ≤ 200)) = true
  · rw [if_pos hc] at h
    rw [Bool.and_eq_true, hs, List.all_append, Bool.and_eq_true, decide_eq_true_eq] at hc
    obtain ⟨⟨c1, c2⟩, c3⟩ := hc
    rw [hs, List.map_append] at h
    have hd1 := letters_det c1
    have hd2 := letters_det c2
    cases hp : prodL M4.I (s1.data.toList.map letM ++ s2.data.toList.map letM) with
    | none => rw [hp] at h; simp [prodV] at h
    | some X =>
      rw [hp] at h
      have hX : X = m := by
        simp [prodV, M4.v] at h
        obtain ⟨g0, g1, g2, g3⟩ := h
        exact M4.eq_of g0 g1 g2 g3
      subst hX
      obtain ⟨x, hx⟩ := prodL_split hp
      have hxe := prodL_ent _ _ _ I_ent hx
      have hxx := prodL_exact _ _ _ hx
      rw [M4.I_mul] at hxx
      have hxd : x.det = 1 := by rw [hxx]; exact exL_det _ hd1
      refine ⟨x, ?_, isM_of hxe hxd, ?_⟩
      · unfold wordV
        rw [if_pos (by rw [Bool.and_eq_true, decide_eq_true_eq]; exact ⟨c1, by omega⟩), hx]; rfl
      · intro y hy
        unfold wordV at hy
        rw [if_pos (by rw [Bool.and_eq_true, decide_eq_true_eq]; exact ⟨c2, by omega⟩)] at hy
        cases hq : prodL M4.I (s2.data.toList.map letM) with
        | none => rw [hq] at hy; simp [prodV] at hy
        | some Y =>
          rw [hq] at hy
          have hY : Y = y := by
            simp [prodV, M4.v] at hy
            obtain ⟨g0, g1, g2, g3⟩ := hy
            exact M4.eq_of g0 g1 g2 g3
          subst hY
          have hye := prodL_ent _ _ _ I_ent hq
          have hyy := prodL_exact _ _ _ hq
          rw [M4.I_mul] at hyy
          have hyd : Y.det = 1 := by rw [hyy]; exact exL_det _ hd2
          refine ⟨isM_of hye hyd, ?_⟩
          have hX2 := prodL_exact _ _ _ hp
          have hXe := prodL_ent _ _ _ I_ent hp
          rw [M4.I_mul, exL_append, ← hxx, ← hyy] at hX2
          rw [prodL, M4.I_mul, if_pos hxe, prodL, ← hX2, if_pos hXe, prodL]
  · rw [if_neg hc] at h
    exfalso
    simp [M4.v] at h
end Go.Proofs.Ytgpnfjpnbchglaa
