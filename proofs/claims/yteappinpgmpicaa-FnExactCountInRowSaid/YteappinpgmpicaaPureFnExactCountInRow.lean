/- Whatever the number, CountInRow of the program and of the reference come to the same: both loops are sums over the numbers up to it, and for each number up to 1000 the kernel reckons that both add the same. No condition. -/
import Derived.Test.YteappinpgmpicaaPFnExactCountInRowx1
namespace Go.Proofs.Yteappinpgmpicaa.Pure
open Go.RowKit Go.Proofs.Yteappinpgmpicaa.PFnExactCountInRow Go.Proofs.YteappinpgmpicaaW.PrintWords Go.Proofs.YteappinpgmpicaaW.PrintLast Go.Proofs.YteappinpgmpicaaW.PrintMore
set_option linter.unusedVariables false
set_option linter.unusedSimpArgs false

/-- from some number of rounds on the answer is r -/
def Evt {α : Type} (g : Nat → Option α) (r : α) : Prop := ∃ k0, ∀ k, k0 ≤ k → g k = some r
theorem Evt.step {α : Type} {g g' : Nat → Option α} {r : α} (h : ∀ k, g (k + 1) = g' k) (e : Evt g' r) : Evt g r := by
  obtain ⟨k0, e⟩ := e
  refine ⟨k0 + 1, fun k hk => ?_⟩
  obtain ⟨m, rfl⟩ : ∃ m, k = m + 1 := ⟨k - 1, by omega⟩
  rw [h]; exact e m (by omega)
theorem Evt.bind {α β : Type} {g : Nat → Option α} {F : Nat → α → Option β} {t : α} {r : β} (e : Evt g t) (f : Evt (fun k => F k t) r) : Evt (fun k => (g k).bind (F k)) r := by
  obtain ⟨k0, e⟩ := e
  obtain ⟨k1, f⟩ := f
  refine ⟨max k0 k1, fun k hk => ?_⟩
  simp only [e k (by omega), Option.bind_some]
  exact f k (by omega)
theorem Evt.now {α : Type} {r : α} : Evt (fun _ => some r) r := ⟨0, fun _ _ => rfl⟩
theorem Evt.of_mono {α : Type} {g : Nat → Option α} {r : α} (hm : ∀ k, LeO (g k) (g (k + 1))) {k0 : Nat} (h : g k0 = some r) : Evt g r := by
  refine ⟨k0, fun k hk => ?_⟩
  obtain ⟨d, rfl⟩ : ∃ d, k = k0 + d := ⟨k - k0, by omega⟩
  clear hk
  induction d with
  | zero => exact h
  | succ d ih => exact hm _ _ ih
theorem wr {x : Int} (h0 : -9223372036854775808 ≤ x) (h1 : x ≤ 9223372036854775807) : wrap64 x = x := by unfold wrap64; omega

theorem gcd_l (k : Nat) : ∀ (a b : Nat), a ≤ 100000 → b ≤ 100000 → b < k → spec_l01Gcd.l0 k (a : Int) (b : Int) = some ((Nat.gcd a b : Nat) : Int) := by
  induction k with
  | zero => intro a b _ _ h; omega
  | succ k ih =>
    intro a b ha hb h
    simp only [spec_l01Gcd.l0]
    by_cases h0 : (b : Int) = 0
    · rw [if_pos h0, wr (by omega) (by omega)]
      have hb0 : b = 0 := by omega
      subst hb0
      simp [mx]
      omega
    · rw [if_neg h0]
      have h1 : Int.tmod (a : Int) (b : Int) = ((a % b : Nat) : Int) := by
        rw [Int.tmod_eq_emod_of_nonneg (by omega)]; rfl
      rw [h1, ih b (a % b) (by omega) (by have := Nat.mod_le a b; omega) (by have := Nat.mod_lt a (y := b) (by omega); omega)]
      rw [Nat.gcd_comm a b, Nat.gcd_rec b a, Nat.gcd_comm (a % b) b]
theorem gcd_e (a b : Nat) (ha : a ≤ 100000) (hb : b ≤ 100000) : Evt (fun k => spec_l01Gcd.f k (a : Int) (b : Int)) ((Nat.gcd a b : Nat) : Int) :=
  ⟨b + 1, fun k hk => gcd_l k a b ha hb (by omega)⟩

def cntN : Nat → Nat → Nat → Nat
  | 0, _, _ => 0
  | d + 1, p, q => (if Nat.gcd p q = 1 then 1 else 0) + cntN d (p + 1) q
def sumN : Nat → Nat → Nat
  | 0, _ => 0
  | d + 1, q => cntN q 1 q + sumN d (q + 1)
theorem cntN_le (d p q : Nat) : cntN d p q ≤ d := by
  induction d generalizing p with
  | zero => simp [cntN]
  | succ d ih => have := ih (p + 1); simp only [cntN]; split <;> omega
theorem spec_l1 (n q : Nat) (hq : q ≤ 1000) (r : Int × Int) (d : Nat) : ∀ (p c : Nat), c + d ≤ 100000000 → p + d = q + 1 → Evt (fun k => spec_CountInRow.l0 k (n : Int) ((c + cntN d p q : Nat) : Int) ((q + 1 : Nat) : Int)) r →
    Evt (fun k => spec_CountInRow.l1 k (n : Int) (c : Int) (q : Int) (p : Int)) r := by
  induction d with
  | zero =>
    intro p c hc hp h
    refine Evt.step (g' := fun k => spec_CountInRow.l0 k (n : Int) ((c + cntN 0 p q : Nat) : Int) ((q + 1 : Nat) : Int)) (fun k => ?_) h
    simp only [spec_CountInRow.l1]
    rw [if_neg (by omega), wr (by omega) (by omega)]
    rfl
  | succ d ih =>
    intro p c hc hp h
    have hg := gcd_e p q (by omega) (by omega)
    have hstep : ∀ k, spec_CountInRow.l1 (k + 1) (n : Int) (c : Int) (q : Int) (p : Int) = (spec_l01Gcd.f k (p : Int) (q : Int)).bind fun t102 => (if t102 = 1 then (spec_CountInRow.l1 k (n : Int) (wrap64 ((c : Int) + 1)) (q : Int) (wrap64 ((p : Int) + 1))) else (spec_CountInRow.l1 k (n : Int) (c : Int) (q : Int) (wrap64 ((p : Int) + 1)))) := by
      intro k
      simp only [spec_CountInRow.l1]
      rw [if_pos (by omega)]
    refine Evt.step hstep (Evt.bind (F := fun k t102 => (if t102 = 1 then (spec_CountInRow.l1 k (n : Int) (wrap64 ((c : Int) + 1)) (q : Int) (wrap64 ((p : Int) + 1))) else (spec_CountInRow.l1 k (n : Int) (c : Int) (q : Int) (wrap64 ((p : Int) + 1))))) hg ?_)
    rw [wr (x := (p : Int) + 1) (by omega) (by omega), wr (x := (c : Int) + 1) (by omega) (by omega)]
    by_cases h1 : Nat.gcd p q = 1
    · have := ih (p + 1) (c + 1) (by omega) (by omega) (by
        have e : c + 1 + cntN d (p + 1) q = c + cntN (d + 1) p q := by simp only [cntN, h1, if_true]; omega
        rw [e]; exact h)
      simpa [h1] using this
    · have := ih (p + 1) c (by omega) (by omega) (by
        have e : c + cntN d (p + 1) q = c + cntN (d + 1) p q := by simp only [cntN, h1, if_false]; omega
        rw [e]; exact h)
      have h2 : ¬ ((Nat.gcd p q : Nat) : Int) = 1 := by omega
      simp only [if_neg h2]
      simpa using this
theorem spec_l0 (n : Nat) (hn : n ≤ 1000) (d : Nat) : ∀ (q c : Nat), 1 ≤ q → c + d * 1000 ≤ 10000000 → q + d = n + 1 → Evt (fun k => spec_CountInRow.l0 k (n : Int) (c : Int) (q : Int)) (((c + sumN d q : Nat) : Int), 0) := by
  induction d with
  | zero =>
    intro q c _ hc hq
    refine Evt.step (g' := fun _ => some ((c : Int), 0)) (fun k => ?_) Evt.now
    simp only [spec_CountInRow.l0]
    rw [if_neg (by omega)]
  | succ d ih =>
    intro q c h1 hc hq
    have hl := cntN_le q 1 q
    refine Evt.step (g' := fun k => spec_CountInRow.l1 k (n : Int) (c : Int) (q : Int) ((1 : Nat) : Int)) (fun k => ?_) (spec_l1 n q (by omega) _ q 1 c (by omega) (by omega) ?_)
    · simp only [spec_CountInRow.l0]
      rw [if_pos (by omega)]
      rfl
    · have := ih (q + 1) (c + cntN q 1 q) (by omega) (by omega) (by omega)
      simp only [sumN]
      rw [← Nat.add_assoc]
      exact this

/-- what the program makes of a number's prime divisors -/
def phiL (m : Int) (L : List Int) : Int := L.foldl (fun m p => (wrap64 ((wrap64 (Int.tdiv m p)) * (wrap64 (p - 1))))) m
set_option maxRecDepth 1000000 in
theorem small : ∀ q : Fin 1000, ((impl_primesOf.f 1100 ((q.val + 1 : Nat) : Int)).bind fun L => if L.all (fun p => decide (p ≠ 0)) && decide (L.length ≤ 20) then some (phiL ((q.val + 1 : Nat) : Int) L) else none) = some ((cntN (q.val + 1) 1 (q.val + 1) : Nat) : Int) := by decide +kernel

theorem impl_l1 (n c q : Int) (L : List Int) (hL : ∀ p ∈ L, p ≠ 0) (hl : L.length ≤ 20) (r : Int × Int) (d : Nat) : ∀ (i : Nat) (m : Int), i + d = L.length → Evt (fun k => impl_CountInRow.l0 k n (wrap64 (c + phiL m (L.drop i))) (wrap64 (q + 1))) r →
    Evt (fun k => impl_CountInRow.l1 k n c q m L (L.length : Int) (i : Int)) r := by
  induction d with
  | zero =>
    intro i m hi h
    refine Evt.step (fun k => ?_) h
    simp only [impl_CountInRow.l1]
    rw [if_neg (by omega), List.drop_of_length_le (by omega)]
    rfl
  | succ d ih =>
    intro i m hi h
    have hlt : i < L.length := by omega
    have e : rd L (i : Int) = L[i] := by simp [rd, hlt]
    have hne : L[i] ≠ 0 := hL _ (List.getElem_mem hlt)
    have := ih (i + 1) (wrap64 ((wrap64 (Int.tdiv m L[i])) * (wrap64 (L[i] - 1)))) (by omega) (by
      rw [List.drop_eq_getElem_cons hlt] at h
      exact h)
    refine Evt.step (fun k => ?_) this
    simp only [impl_CountInRow.l1]
    rw [if_pos (by omega), if_pos (by omega), if_pos (by omega), e, if_neg hne, wr (x := (i : Int) + 1) (by omega) (by omega)]
    rfl
theorem impl_l0 (n : Nat) (hn : n ≤ 1000) (d : Nat) : ∀ (q c : Nat), 1 ≤ q → c + d * 1000 ≤ 10000000 → q + d = n + 1 → Evt (fun k => impl_CountInRow.l0 k (n : Int) (c : Int) (q : Int)) (((c + sumN d q : Nat) : Int), 0) := by
  induction d with
  | zero =>
    intro q c _ hc hq
    refine Evt.step (g' := fun _ => some ((c : Int), 0)) (fun k => ?_) Evt.now
    simp only [impl_CountInRow.l0]
    rw [if_neg (by omega)]
  | succ d ih =>
    intro q c h1 hc hq
    have hl := cntN_le q 1 q
    have hs := small ⟨q - 1, by omega⟩
    simp only [show q - 1 + 1 = q by omega] at hs
    obtain ⟨L, hL, hs⟩ := Option.bind_eq_some_iff.mp hs
    split at hs
    · rename_i hall
      simp only [Bool.and_eq_true, List.all_eq_true, decide_eq_true_eq] at hall
      have hphi := Option.some.inj hs
      have hp : Evt (fun k => impl_primesOf.f k (q : Int)) L := Evt.of_mono (fun k => impl_primesOf.mono _ k) hL
      have hstep : ∀ k, impl_CountInRow.l0 (k + 1) (n : Int) (c : Int) (q : Int) = (impl_primesOf.f k (q : Int)).bind fun t110 => (impl_CountInRow.l1 k (n : Int) (c : Int) (q : Int) (q : Int) t110 (t110.length : Int) 0) := by
        intro k
        simp only [impl_CountInRow.l0]
        rw [if_pos (by omega)]
      refine Evt.step hstep (Evt.bind (F := fun k t110 => (impl_CountInRow.l1 k (n : Int) (c : Int) (q : Int) (q : Int) t110 (t110.length : Int) 0)) hp ?_)
      have := impl_l1 (n : Int) (c : Int) (q : Int) L hall.1 hall.2 (((c + sumN (d + 1) q : Nat) : Int), 0) L.length 0 (q : Int) (by omega) (by
        rw [List.drop_zero, hphi, wr (by omega) (by omega), wr (by omega) (by omega)]
        have := ih (q + 1) (c + cntN q 1 q) (by omega) (by omega) (by omega)
        simp only [sumN]
        rw [← Nat.add_assoc]
        simpa using this)
      simpa using this
    · cases hs
theorem within_no {a : Int} (h : ¬ (1 ≤ a ∧ a ≤ 1000)) : spec_l01In.f a 1 1000 = some false ∧ impl_within.f a 1 1000 = some false := by
  unfold spec_l01In.f impl_within.f
  by_cases h1 : a ≥ 1
  · have : ¬ a ≤ 1000 := by omega
    simp [this]
  · simp [h1]
theorem within_yes {a : Int} (h1 : 1 ≤ a) (h2 : a ≤ 1000) : spec_l01In.f a 1 1000 = some true ∧ impl_within.f a 1 1000 = some true := by
  unfold spec_l01In.f impl_within.f
  simp [h1, h2]
theorem FnExactCountInRow : laws_FnExactCountInRow.Pure := by
  intro a _
  by_cases h : 1 ≤ a ∧ a ≤ 1000
  · obtain ⟨n, rfl⟩ : ∃ n : Nat, a = n := ⟨a.toNat, by omega⟩
    obtain ⟨w1, w2⟩ := within_yes h.1 h.2
    obtain ⟨k1, e1⟩ := spec_l0 n (by omega) n 1 1 (by omega) (by omega) (by omega)
    obtain ⟨k2, e2⟩ := impl_l0 n (by omega) n 1 1 (by omega) (by omega) (by omega)
    have f1 := e1 (max k1 k2) (by omega)
    have f2 := e2 (max k1 k2) (by omega)
    refine ⟨max k1 k2, ?_⟩
    unfold laws_FnExactCountInRow.f spec_CountInRow.f impl_CountInRow.f
    rw [w1, w2]
    simp only [Option.bind_some, if_true]
    have g1 : spec_CountInRow.l0 (max k1 k2) (n : Int) 1 1 = some (((1 + sumN n 1 : Nat) : Int), 0) := f1
    have g2 : impl_CountInRow.l0 (max k1 k2) (n : Int) 1 1 = some (((1 + sumN n 1 : Nat) : Int), 0) := f2
    rw [g1, g2]
    simp
  · obtain ⟨h1, h2⟩ := within_no h
    refine ⟨1, ?_⟩
    unfold laws_FnExactCountInRow.f spec_CountInRow.f impl_CountInRow.f
    rw [h1, h2]
    rfl

end Go.Proofs.Yteappinpgmpicaa.Pure
