/- Products, conjugates, powers and orders in plain Lean: what the law FnMatrixProducts asks. -/
import Derived.Test.YtlkhhpckgcdeeaaGreatDoorGA
import Derived.Test.YtlkhhpckgcdeeaaGreatDoorPB
import Derived.Test.YtlkhhpckgcdeeaaGreatDoorPC
import Derived.Test.YtlkhhpckgcdeeaaGreatDoorO
import Derived.Test.YtlkhhpckgcdeeaaGreatDoorR
import Derived.Test.YtlkhhpckgcdeeaaGreatDoorC
import Derived.Test.YtlkhhpckgcdeeaaGreatDoorSB
import Derived.Test.YtlkhhpckgcdeeaaGreatDoorPE
import Derived.Test.YtlkhhpckgcdeeaaGreatDoorN
import Derived.Test.YtlkhhpckgcdeeaaGreatDoorTI
namespace Go.Proofs.YtlkhhpckgcdeeaaGreatDoor
open Go.RowKit
open Plain
set_option linter.unusedVariables false
set_option linter.unusedSimpArgs false
def M4.inv (n : M4) : M4 := ⟨n.d, -n.b, -n.c, n.a⟩
theorem M4.mul_inv {n : M4} (h : n.det = 1) : n.mul n.inv = M4.I := by
  simp only [M4.det] at h
  apply M4.eq_of <;> simp only [M4.mul, M4.inv, M4.I] <;> grind
theorem M4.inv_mul {n : M4} (h : n.det = 1) : n.inv.mul n = M4.I := by
  simp only [M4.det] at h
  apply M4.eq_of <;> simp only [M4.mul, M4.inv, M4.I] <;> grind
theorem M4.inv_det {n : M4} (h : n.det = 1) : n.inv.det = 1 := by
  simp only [M4.det, M4.inv] at *; rw [Int.neg_mul_neg, Int.mul_comm n.d n.a]; exact h
theorem inv_ent4 {n : M4} (h : n.ent = true) : n.inv.ent = true := by
  obtain ⟨a1, a2, a3, a4⟩ := M4.ent_iff.mp h
  have := ent_iff.mp a2
  have := ent_iff.mp a3
  exact M4.ent_iff.mpr ⟨a4, ent_iff.mpr (by dsimp only [M4.inv]; omega), ent_iff.mpr (by dsimp only [M4.inv]; omega), a1⟩
theorem M4.inv_back (m n : M4) (h : n.det = 1) : (m.mul n).mul n.inv = m := by rw [M4.mul_assoc, M4.mul_inv h, M4.mul_I]
/-- the first factor comes back -/
theorem prod_back {m n P Q : M4} (hn : n.det = 1) (h1 : prodL M4.I [m, n] = some P) (h2 : prodL M4.I [P, n.inv] = some Q) : Q = m := by
  have e1 := prodL_exact _ _ _ h1
  have e2 := prodL_exact _ _ _ h2
  rw [M4.I_mul] at e1 e2
  have e3 : P = m.mul n := by rw [e1]; show m.mul (n.mul M4.I) = _; rw [M4.mul_I]
  rw [e2]
  show P.mul (n.inv.mul M4.I) = m
  rw [M4.mul_I, e3]
  exact M4.inv_back m n hn
theorem prod_det {l : List M4} {P : M4} (h : prodL M4.I l = some P) (hd : ∀ m ∈ l, m.det = 1) : P.det = 1 ∧ P.ent = true := by
  have e := prodL_exact _ _ _ h
  rw [M4.I_mul] at e
  exact ⟨by rw [e]; exact exL_det l hd, prodL_ent _ _ _ I_ent h⟩
/-- a conjugate -/
theorem conj_exact {x y X : M4} (h : prodL M4.I [y, x, y.inv] = some X) : X = (y.mul x).mul y.inv := by
  have e := prodL_exact _ _ _ h
  rw [M4.I_mul] at e
  rw [e]
  show y.mul (x.mul (y.inv.mul M4.I)) = _
  rw [M4.mul_I, M4.mul_assoc]
theorem conj_trace {x y : M4} (hy : y.det = 1) : ((y.mul x).mul y.inv).a + ((y.mul x).mul y.inv).d = x.a + x.d := by
  simp only [M4.det] at hy
  simp only [M4.mul, M4.inv]
  grind
theorem conj_scal {x y : M4} (hx : x.det = 1) (hy : y.det = 1) (h : x.b = 0 ∧ x.c = 0) : ((y.mul x).mul y.inv).b = 0 ∧ ((y.mul x).mul y.inv).c = 0 := by
  obtain ⟨h1, h2⟩ := h
  simp only [M4.det] at hx hy
  have h3 : x.a * x.d = 1 := by rw [h1] at hx; simpa using hx
  have h4 : x.a = x.d := by rcases unit_cases h3 with ⟨e1, e2⟩ | ⟨e1, e2⟩ <;> rw [e1, e2]
  constructor
  · simp only [M4.mul, M4.inv, h1, h2]; grind
  · simp only [M4.mul, M4.inv, h1, h2]; grind
theorem conj_kind {x y : M4} (hx : x.det = 1) (hy : y.det = 1) : kindOf ((y.mul x).mul y.inv).a ((y.mul x).mul y.inv).b ((y.mul x).mul y.inv).c ((y.mul x).mul y.inv).d = kindOf x.a x.b x.c x.d := by
  have ht := conj_trace (x := x) hy
  have hd : ((y.mul x).mul y.inv).det = 1 := by rw [M4.det_mul, M4.det_mul, hx, hy, M4.inv_det hy]; rfl
  have hb : (((y.mul x).mul y.inv).b = 0 ∧ ((y.mul x).mul y.inv).c = 0) ↔ (x.b = 0 ∧ x.c = 0) := by
    constructor
    · intro h
      have h2 := conj_scal (x := (y.mul x).mul y.inv) (y := y.inv) hd (M4.inv_det hy) h
      have e : (y.inv.mul ((y.mul x).mul y.inv)).mul y.inv.inv = x := by
        have e1 : y.inv.inv = y := by apply M4.eq_of <;> simp [M4.inv]
        rw [e1, M4.mul_assoc, M4.mul_assoc, M4.mul_assoc, M4.inv_mul hy, M4.mul_I, ← M4.mul_assoc, M4.inv_mul hy, M4.I_mul]
      rw [e] at h2; exact h2
    · exact conj_scal hx hy
  unfold kindOf
  rw [ht]
  by_cases hc : x.b = 0 ∧ x.c = 0
  · rw [if_pos (hb.mpr hc), if_pos hc]
  · rw [if_neg (fun h => hc (hb.mp h)), if_neg hc]
/-- powers -/
theorem pow_one' (m : P4) : m.pow 1 = m := by simp [P4.pow, P4.one_mul, P4.mul_one]
theorem pow_step (m : P4) (k : Nat) : (m.pow k).mul m = m.pow (k + 1) := by
  have := P4.pow_add m k 1
  rw [pow_one'] at this; exact this
theorem pow_less (m : P4) (h : m.det = 1) (hf : m.fit) (k : Nat) (hk : (m.pow (k + 1)).fit) : (m.pow k).fit := by
  by_cases ht : m.tr.natAbs < 2
  · exact fit_small m h ht hf k
  · exact fit_down m h (by omega) k hk
/-- orders -/
theorem order_pow (m : P4) (h : m.det = 1) (hk : (m.b = 0 ∧ m.c = 0) ∨ m.tr.natAbs < 2) : m.pow (ordOf m.tr).toNat = P4.one ∧ (12 : Int) % ordOf m.tr = 0 ∧ 1 ≤ ordOf m.tr ∧ ordOf m.tr ≤ 6 := by
  rcases hk with ⟨h1, h2⟩ | ht
  · have hd : m.a * m.d = 1 := by simp only [P4.det] at h; rw [h1] at h; simpa using h
    obtain ⟨a, b, c, d⟩ := m
    simp only [] at h1 h2 hd
    subst h1 h2
    rcases unit_cases hd with ⟨rfl, rfl⟩ | ⟨rfl, rfl⟩
    · exact ⟨by rfl, by decide, by decide, by decide⟩
    · exact ⟨by rfl, by decide, by decide, by decide⟩
  · have e := fun n => Plain.pow_U m h n
    rcases (show m.tr = -1 ∨ m.tr = 0 ∨ m.tr = 1 by omega) with h3 | h3 | h3 <;> rw [h3] <;> refine ⟨?_, by decide, by decide, by decide⟩
    · rw [e, h3]; simp [ordOf, U, V, P4.one]
    · rw [e, h3]; simp [ordOf, U, V, P4.one]
    · rw [e, h3]; simp [ordOf, U, V, P4.one]
end Go.Proofs.YtlkhhpckgcdeeaaGreatDoor

/- What the law FnMatrixProducts calls, each time for the program and the reference together, with what it says. -/
namespace Go.Proofs.YtlkhhpckgcdeeaaGreatDoor
open Go.RowKit
open Plain
set_option linter.unusedVariables false
set_option linter.unusedSimpArgs false
def RetT (f : Nat) (args : Array Value) (v : Value) : Prop := ∀ w, Calls Tryz.prog f args w fun e w' => e = .returned v ∧ Below w.heap.size w w'
theorem RetT.get {f : Nat} {args : Array Value} {v : Value} (h : RetT f args v) (w : World) : Calls Tryz.prog f args w fun e w' => e = .returned v ∧ Below w.heap.size w w' := h w
theorem isM_of4 {X : M4} (h : X.det = 1 ∧ X.ent = true) : isM X.a X.b X.c X.d = true := isM_of h.2 h.1
theorem isM_to4 {p q r s : Int} (h : isM p q r s = true) : M4.ent ⟨p, q, r, s⟩ = true ∧ M4.det ⟨p, q, r, s⟩ = 1 := isM_to h
theorem det_two {a b : M4} (ha : a.det = 1) (hb : b.det = 1) : ∀ m ∈ [a, b], m.det = 1 := by
  intro m hm; simp only [List.mem_cons, List.not_mem_nil, or_false] at hm; rcases hm with rfl | rfl <;> assumption
theorem det_three {a b c : M4} (ha : a.det = 1) (hb : b.det = 1) (hc : c.det = 1) : ∀ m ∈ [a, b, c], m.det = 1 := by
  intro m hm; simp only [List.mem_cons, List.not_mem_nil, or_false] at hm; rcases hm with rfl | rfl | rfl <;> assumption
theorem prod_all (p q r s p' q' r' s' : Int) : ∃ x0 x1 x2 x3 x4 : Int, Hid (RetT 38 #[.agg #[.int .i64 p, .int .i64 q, .int .i64 r, .int .i64 s], .agg #[.int .i64 p', .int .i64 q', .int .i64 r', .int .i64 s']] (.tuple #[.agg #[.int .i64 x0, .int .i64 x1, .int .i64 x2, .int .i64 x3], .int .i64 x4])) ∧ Hid (RetT 39 #[.agg #[.int .i64 p, .int .i64 q, .int .i64 r, .int .i64 s], .agg #[.int .i64 p', .int .i64 q', .int .i64 r', .int .i64 s']] (.tuple #[.agg #[.int .i64 x0, .int .i64 x1, .int .i64 x2, .int .i64 x3], .int .i64 x4])) ∧
    (x4 = 0 → isM p q r s = true ∧ isM p' q' r' s' = true ∧ isM x0 x1 x2 x3 = true ∧ (⟨x0, x1, x2, x3⟩ : M4) = M4.mul ⟨p, q, r, s⟩ ⟨p', q', r', s'⟩) := by
  cases h : (isM p q r s && isM p' q' r' s')
  · exact ⟨0, 0, 0, 0, 1, Lib.hid (fun w => ProductOf_no _ _ _ _ _ _ _ _ w h), Lib.hid (fun w => sProductOf_no _ _ _ _ _ _ _ _ w h), by omega⟩
  · have h' := h
    rw [Bool.and_eq_true] at h'
    cases hp : prodL M4.I [⟨p, q, r, s⟩, ⟨p', q', r', s'⟩] with
    | none => exact ⟨0, 0, 0, 0, 3, Lib.hid (fun w => by have := ProductOf_yes p q r s p' q' r' s' w h; rw [hp] at this; exact this), Lib.hid (fun w => by have := sProductOf_yes p q r s p' q' r' s' w h; rw [hp] at this; exact this), by omega⟩
    | some X =>
      refine ⟨X.a, X.b, X.c, X.d, 0, Lib.hid (fun w => by have := ProductOf_yes p q r s p' q' r' s' w h; rw [hp] at this; exact this), Lib.hid (fun w => by have := sProductOf_yes p q r s p' q' r' s' w h; rw [hp] at this; exact this), fun _ => ⟨h'.1, h'.2, isM_of4 (prod_det hp (det_two (isM_to4 h'.1).2 (isM_to4 h'.2).2)), ?_⟩⟩
      have e := prodL_exact _ _ _ hp
      rw [M4.I_mul] at e
      show X = _
      rw [e]
      show M4.mul _ (M4.mul _ M4.I) = _
      rw [M4.mul_I]
/-- a product that is small enough is answered -/
theorem prod_fit (p q r s p' q' r' s' : Int) (x : M4) (h1 : isM p q r s = true) (h2 : isM p' q' r' s' = true) (hx : x = M4.mul ⟨p, q, r, s⟩ ⟨p', q', r', s'⟩) (he : x.ent = true) :
    RetT 38 #[.agg #[.int .i64 p, .int .i64 q, .int .i64 r, .int .i64 s], .agg #[.int .i64 p', .int .i64 q', .int .i64 r', .int .i64 s']] (.tuple #[.agg #[.int .i64 x.a, .int .i64 x.b, .int .i64 x.c, .int .i64 x.d], .int .i64 0]) := by
  intro w
  have h := ProductOf_yes p q r s p' q' r' s' w (by rw [h1, h2]; rfl)
  have hp : prodL M4.I [⟨p, q, r, s⟩, ⟨p', q', r', s'⟩] = some x := by
    unfold prodL prodL prodL
    rw [M4.I_mul, if_pos (isM_to4 h1).1, ← hx, if_pos he]
  rw [hp] at h
  exact h
theorem conj_all (p q r s p' q' r' s' : Int) : ∃ x0 x1 x2 x3 x4 : Int, Hid (RetT 45 #[.agg #[.int .i64 p, .int .i64 q, .int .i64 r, .int .i64 s], .agg #[.int .i64 p', .int .i64 q', .int .i64 r', .int .i64 s']] (.tuple #[.agg #[.int .i64 x0, .int .i64 x1, .int .i64 x2, .int .i64 x3], .int .i64 x4])) ∧ Hid (RetT 46 #[.agg #[.int .i64 p, .int .i64 q, .int .i64 r, .int .i64 s], .agg #[.int .i64 p', .int .i64 q', .int .i64 r', .int .i64 s']] (.tuple #[.agg #[.int .i64 x0, .int .i64 x1, .int .i64 x2, .int .i64 x3], .int .i64 x4])) ∧
    (x4 = 0 → isM p q r s = true ∧ isM x0 x1 x2 x3 = true ∧ x0 + x3 = p + s ∧ kindOf x0 x1 x2 x3 = kindOf p q r s) := by
  cases h : (isM p q r s && isM p' q' r' s')
  · exact ⟨0, 0, 0, 0, 1, Lib.hid (fun w => ConjugateBy_no _ _ _ _ _ _ _ _ w h), Lib.hid (fun w => sConjugateBy_no _ _ _ _ _ _ _ _ w h), by omega⟩
  · have h' := h
    rw [Bool.and_eq_true] at h'
    cases hp : prodL M4.I [⟨p', q', r', s'⟩, ⟨p, q, r, s⟩, ⟨s', -q', -r', p'⟩] with
    | none => exact ⟨0, 0, 0, 0, 3, Lib.hid (fun w => by have := ConjugateBy_yes p q r s p' q' r' s' w h; rw [hp] at this; exact this), Lib.hid (fun w => by have := sConjugateBy_yes p q r s p' q' r' s' w h; rw [hp] at this; exact this), by omega⟩
    | some X =>
      have d1 := (isM_to4 h'.1).2
      have d2 := (isM_to4 h'.2).2
      have hX := conj_exact (x := ⟨p, q, r, s⟩) (y := ⟨p', q', r', s'⟩) hp
      have ht := conj_trace (x := ⟨p, q, r, s⟩) d2
      have hk := conj_kind d1 d2
      rw [← hX] at ht hk
      exact ⟨X.a, X.b, X.c, X.d, 0, Lib.hid (fun w => by have := ConjugateBy_yes p q r s p' q' r' s' w h; rw [hp] at this; exact this), Lib.hid (fun w => by have := sConjugateBy_yes p q r s p' q' r' s' w h; rw [hp] at this; exact this), fun _ => ⟨h'.1, isM_of4 (prod_det hp (det_three d2 d1 (M4.inv_det d2))), ht, hk⟩⟩
theorem comm_all (p q r s p' q' r' s' : Int) : ∃ x0 x1 x2 x3 x4 : Int, Hid (RetT 56 #[.agg #[.int .i64 p, .int .i64 q, .int .i64 r, .int .i64 s], .agg #[.int .i64 p', .int .i64 q', .int .i64 r', .int .i64 s']] (.tuple #[.agg #[.int .i64 x0, .int .i64 x1, .int .i64 x2, .int .i64 x3], .int .i64 x4])) ∧ Hid (RetT 57 #[.agg #[.int .i64 p, .int .i64 q, .int .i64 r, .int .i64 s], .agg #[.int .i64 p', .int .i64 q', .int .i64 r', .int .i64 s']] (.tuple #[.agg #[.int .i64 x0, .int .i64 x1, .int .i64 x2, .int .i64 x3], .int .i64 x4])) := by
  cases h : (isM p q r s && isM p' q' r' s')
  · exact ⟨0, 0, 0, 0, 1, Lib.hid (fun w => CommutatorOf_no _ _ _ _ _ _ _ _ w h), Lib.hid (fun w => sCommutatorOf_no _ _ _ _ _ _ _ _ w h)⟩
  · obtain ⟨x0, x1, x2, x3, x4, hv⟩ := prodV_form (prodL M4.I [⟨p, q, r, s⟩, ⟨p', q', r', s'⟩, ⟨s, -q, -r, p⟩, ⟨s', -q', -r', p'⟩])
    exact ⟨x0, x1, x2, x3, x4, Lib.hid (fun w => by have := CommutatorOf_yes p q r s p' q' r' s' w h; rw [hv] at this; exact this), Lib.hid (fun w => by have := sCommutatorOf_yes p q r s p' q' r' s' w h; rw [hv] at this; exact this)⟩
theorem fit_isM {m : P4} (h : m.det = 1) (hf : m.fit) : isM m.a m.b m.c m.d = true := by
  simp only [P4.fit] at hf
  simp only [P4.det] at h
  exact isM_iff.mpr ⟨by omega, by omega, by omega, by omega, h⟩
theorem isM_P {p q r s : Int} (h : isM p q r s = true) : P4.det ⟨p, q, r, s⟩ = 1 ∧ P4.fit ⟨p, q, r, s⟩ := by
  obtain ⟨a, b, c, d, e⟩ := isM_iff.mp h
  exact ⟨e, by simp only [P4.fit]; omega⟩
theorem pow_det (m : P4) (h : m.det = 1) (n : Nat) : (m.pow n).det = 1 := by
  induction n with
  | zero => rfl
  | succ n ih =>
    rw [← pow_step]
    simp only [P4.det, P4.mul] at *
    grind
/-- powers, and that a power comes from the one before -/
theorem pow_all (p q r s k : Int) : ∃ x0 x1 x2 x3 x4 : Int, Hid (RetT 49 #[.agg #[.int .i64 p, .int .i64 q, .int .i64 r, .int .i64 s], .int .i64 k] (.tuple #[.agg #[.int .i64 x0, .int .i64 x1, .int .i64 x2, .int .i64 x3], .int .i64 x4])) ∧ Hid (RetT 50 #[.agg #[.int .i64 p, .int .i64 q, .int .i64 r, .int .i64 s], .int .i64 k] (.tuple #[.agg #[.int .i64 x0, .int .i64 x1, .int .i64 x2, .int .i64 x3], .int .i64 x4])) ∧
    (x4 = 0 → 0 < k → ∃ y0 y1 y2 y3 : Int, Hid (RetT 49 #[.agg #[.int .i64 p, .int .i64 q, .int .i64 r, .int .i64 s], .int .i64 (k - 1)] (.tuple #[.agg #[.int .i64 y0, .int .i64 y1, .int .i64 y2, .int .i64 y3], .int .i64 0])) ∧ Hid (RetT 38 #[.agg #[.int .i64 y0, .int .i64 y1, .int .i64 y2, .int .i64 y3], .agg #[.int .i64 p, .int .i64 q, .int .i64 r, .int .i64 s]] (.tuple #[.agg #[.int .i64 x0, .int .i64 x1, .int .i64 x2, .int .i64 x3], .int .i64 0]))) := by
  cases h : isM p q r s
  · exact ⟨0, 0, 0, 0, 1, Lib.hid (fun w => PowerOf_no _ _ _ _ _ w h), Lib.hid (fun w => sPowerOf_no _ _ _ _ _ w h), by omega⟩
  cases hr : (decide (-1000000 ≤ k) && decide (k ≤ 1000000))
  · exact ⟨0, 0, 0, 0, 2, Lib.hid (fun w => PowerOf_range _ _ _ _ _ w h hr), Lib.hid (fun w => sPowerOf_range _ _ _ _ _ w h hr), by omega⟩
  have hb : -1000000 ≤ k ∧ k ≤ 1000000 := by simpa using hr
  by_cases hneg : k < 0
  · obtain ⟨n, rfl⟩ : ∃ n : Nat, k = -(n : Int) := ⟨k.natAbs, by omega⟩
    obtain ⟨x0, x1, x2, x3, x4, hx⟩ := powV_form ⟨s, -q, -r, p⟩ n
    exact ⟨x0, x1, x2, x3, x4, Lib.hid (fun w => by rw [← hx]; exact PowerOf_neg _ _ _ _ n w h (by omega) (by omega)), Lib.hid (fun w => by rw [← hx]; exact sPowerOf_neg _ _ _ _ n w h (by omega) (by omega)), fun _ h2 => absurd h2 (by omega)⟩
  · obtain ⟨n, rfl⟩ : ∃ n : Nat, k = (n : Int) := ⟨k.natAbs, by omega⟩
    by_cases hf : (P4.pow ⟨p, q, r, s⟩ n).fit
    · refine ⟨(P4.pow ⟨p, q, r, s⟩ n).a, (P4.pow ⟨p, q, r, s⟩ n).b, (P4.pow ⟨p, q, r, s⟩ n).c, (P4.pow ⟨p, q, r, s⟩ n).d, 0, Lib.hid (fun w => by have := PowerOf_pos p q r s n w h (by omega); rw [powV_yes hf] at this; exact this), Lib.hid (fun w => by have := sPowerOf_pos p q r s n w h (by omega); rw [powV_yes hf] at this; exact this), fun _ h2 => ?_⟩
      obtain ⟨j, rfl⟩ : ∃ j : Nat, n = j + 1 := ⟨n - 1, by omega⟩
      obtain ⟨dm, fm⟩ := isM_P h
      have hfj := pow_less ⟨p, q, r, s⟩ dm fm j hf
      have hdj := pow_det ⟨p, q, r, s⟩ dm j
      have hsj := pow_step ⟨p, q, r, s⟩ j
      refine ⟨(P4.pow ⟨p, q, r, s⟩ j).a, (P4.pow ⟨p, q, r, s⟩ j).b, (P4.pow ⟨p, q, r, s⟩ j).c, (P4.pow ⟨p, q, r, s⟩ j).d, Lib.hid (fun w => ?_), Lib.hid ?_⟩
      · have := PowerOf_pos p q r s j w h (by omega)
        rw [powV_yes hfj] at this
        rw [show ((j + 1 : Nat) : Int) - 1 = (j : Int) by omega]
        exact this
      · have hM := fit_isM hdj hfj
        have hfit := hf
        rw [← hsj] at hf ⊢
        generalize P4.pow ⟨p, q, r, s⟩ j = Y at *
        simp only [P4.fit, P4.mul] at hf
        have := prod_fit Y.a Y.b Y.c Y.d p q r s (M4.mul ⟨Y.a, Y.b, Y.c, Y.d⟩ ⟨p, q, r, s⟩) hM h rfl (M4.ent_iff.mpr (by simp only [M4.mul]; exact ⟨ent_iff.mpr (by omega), ent_iff.mpr (by omega), ent_iff.mpr (by omega), ent_iff.mpr (by omega)⟩))
        exact this
    · exact ⟨0, 0, 0, 0, 3, Lib.hid (fun w => by have := PowerOf_pos p q r s n w h (by omega); rw [powV_no hf] at this; exact this), Lib.hid (fun w => by have := sPowerOf_pos p q r s n w h (by omega); rw [powV_no hf] at this; exact this), by omega⟩
/-- orders and kinds -/
theorem order_all (p q r s : Int) : ∃ o c k d : Int, Hid (RetT 52 #[.agg #[.int .i64 p, .int .i64 q, .int .i64 r, .int .i64 s]] (.tuple #[.int .i64 o, .int .i64 c])) ∧ Hid (RetT 53 #[.agg #[.int .i64 p, .int .i64 q, .int .i64 r, .int .i64 s]] (.tuple #[.int .i64 o, .int .i64 c])) ∧
    Hid (RetT 17 #[.agg #[.int .i64 p, .int .i64 q, .int .i64 r, .int .i64 s]] (.tuple #[.int .i64 k, .int .i64 d])) ∧ Hid (RetT 54 #[.agg #[.int .i64 p, .int .i64 q, .int .i64 r, .int .i64 s]] (.tuple #[.int .i64 k, .int .i64 d])) ∧
    (d = 0 → (c = 0 ↔ k < 2)) ∧ (c = 0 → d = 0 ∧ Hid (RetT 49 #[.agg #[.int .i64 p, .int .i64 q, .int .i64 r, .int .i64 s], .int .i64 o] (.tuple #[.agg #[.int .i64 1, .int .i64 0, .int .i64 0, .int .i64 1], .int .i64 0])) ∧ 12 % o = 0 ∧ 1 ≤ o ∧ o ≤ 6) := by
  cases h : isM p q r s
  · exact ⟨0, 1, 0, 1, Lib.hid (fun w => OrderOf_no _ _ _ _ w h), Lib.hid (fun w => sOrderOf_no _ _ _ _ w h), Lib.hid (fun w => KindOf_no _ _ _ _ w h), Lib.hid (fun w => sKindOf_no _ _ _ _ w h), by omega, by omega⟩
  · by_cases hk : 1 < kindOf p q r s
    · exact ⟨0, 4, _, 0, Lib.hid (fun w => OrderOf_far _ _ _ _ w h hk), Lib.hid (fun w => sOrderOf_far _ _ _ _ w h hk), Lib.hid (fun w => KindOf_yes _ _ _ _ w h), Lib.hid (fun w => sKindOf_yes _ _ _ _ w h), fun _ => by omega, by omega⟩
    · obtain ⟨dm, fm⟩ := isM_P h
      have hsmall : ((P4.mk p q r s).b = 0 ∧ (P4.mk p q r s).c = 0) ∨ (P4.mk p q r s).tr.natAbs < 2 := by
        unfold kindOf at hk
        show (q = 0 ∧ r = 0) ∨ (p + s).natAbs < 2
        split at hk
        · exact .inl (by assumption)
        · right; split at hk
          · omega
          · split at hk <;> omega
      obtain ⟨o1, o2, o3, o4⟩ := order_pow ⟨p, q, r, s⟩ dm hsmall
      have htr : (P4.mk p q r s).tr = p + s := rfl
      rw [htr] at o1 o2 o3 o4
      refine ⟨ordOf (p + s), 0, _, 0, Lib.hid (fun w => OrderOf_yes _ _ _ _ w h hk), Lib.hid (fun w => sOrderOf_yes _ _ _ _ w h hk), Lib.hid (fun w => KindOf_yes _ _ _ _ w h), Lib.hid (fun w => sKindOf_yes _ _ _ _ w h), fun _ => by omega, fun _ => ⟨rfl, Lib.hid (fun w => ?_), o2, o3, o4⟩⟩
      have := PowerOf_pos p q r s (ordOf (p + s)).toNat w h (by omega)
      rw [powV_yes (by rw [o1]; simp [P4.fit, P4.one]), o1, Int.toNat_of_nonneg (by omega)] at this
      exact this
/-- a matrix and its text -/
theorem read_text {p q r s : Int} (h : isM p q r s = true) : parseM (joinT [p, q, r, s] 44) = .tuple #[.agg #[.int .i64 p, .int .i64 q, .int .i64 r, .int .i64 s], .int .i64 0] := by
  obtain ⟨⟨p0, p1⟩, ⟨q0, q1⟩, ⟨r0, r1⟩, ⟨s0, s1⟩, -⟩ := isM_iff.mp h
  obtain ⟨h1, h2⟩ := to_parts (y := 44) (.inl rfl) (vs := [p, q, r, s]) (by simp) (by intro z hz; simp only [List.mem_cons, List.not_mem_nil, or_false] at hz; rcases hz with rfl | rfl | rfl | rfl <;> omega) rfl
  unfold parseM readM
  rw [h1, h2]
  have h3 : isM ([p, q, r, s].getD 0 0) ([p, q, r, s].getD 1 0) ([p, q, r, s].getD 2 0) ([p, q, r, s].getD 3 0) = true := h
  rw [h3]
  rfl
theorem read_size {p q r s : Int} (h : isM p q r s = true) : (⟨(joinT [p, q, r, s] 44).toArray⟩ : ByteArray).size ≤ 88 := by
  obtain ⟨⟨p0, p1⟩, ⟨q0, q1⟩, ⟨r0, r1⟩, ⟨s0, s1⟩, -⟩ := isM_iff.mp h
  have := joinT_len (b := 44) (zs := [p, q, r, s]) (by intro z hz; simp only [List.mem_cons, List.not_mem_nil, or_false] at hz; rcases hz with rfl | rfl | rfl | rfl <;> omega)
  simp only [List.length_cons, List.length_nil] at this
  show (joinT [p, q, r, s] 44).toArray.size ≤ 88
  simpa using this
theorem parseM_form' (l : List UInt8) : ∃ p q r s c : Int, parseM l = .tuple #[.agg #[.int .i64 p, .int .i64 q, .int .i64 r, .int .i64 s], .int .i64 c] := by
  unfold parseM
  split <;> exact ⟨_, _, _, _, _, rfl⟩
theorem name_form (s : ByteArray) : ∃ p q r t c : Int, optM (nameOf s.toList) = .agg #[.int .i64 p, .int .i64 q, .int .i64 r, .int .i64 t] ∧ (if (nameOf s.toList).isSome then (0 : Int) else 4) = c := by
  cases nameOf s.toList with
  | none => exact ⟨_, _, _, _, _, rfl, rfl⟩
  | some v => obtain ⟨p, q, r, t⟩ := v; exact ⟨p, q, r, t, _, rfl, rfl⟩
end Go.Proofs.YtlkhhpckgcdeeaaGreatDoor
