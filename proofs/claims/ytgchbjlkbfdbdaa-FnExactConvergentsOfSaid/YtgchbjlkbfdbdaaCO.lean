/- ConvergentsOf of the program and of the reference: the walks and the law. -/
import Derived.Test.YtgchbjlkbfdbdaaCV
import Derived.Test.YtgchbjlkbfdbdaaCW
namespace Go.Proofs.Ytgchbjlkbfdbdaa
open Go.RowKit
open Plain (flo Cont)
set_option linter.unusedVariables false
set_option linter.unusedSimpArgs false
/-- the numbers of a continued fraction are small -/
theorem cont_ent {p q : Int} {zs : List Int} (hc : Cont p q zs) : -1000000000 ≤ p → p ≤ 1000000000 → q ≤ 1000000000 → ∀ k, k < zs.length → ent (zs.getD k 0) = true := by
  induction hc with
  | stop p => intro _ _ _ k hk; simp at hk
  | step p q l hq hc ih =>
    intro h0 h1 h2 k hk
    obtain ⟨r0, r1⟩ := Plain.flo_rest p q hq
    cases k with
    | zero =>
      show ent (flo p q) = true
      apply ent_iff.mpr
      constructor
      · rcases Int.lt_or_le (flo p q) (-1000000000) with h | h
        · exfalso
          have : flo p q * q ≤ (-1000000001) * q := Int.mul_le_mul_of_nonneg_right (by omega) (by omega)
          omega
        · exact h
      · rcases Int.lt_or_le 1000000000 (flo p q) with h | h
        · exfalso
          have : 1000000001 * q ≤ flo p q * q := Int.mul_le_mul_of_nonneg_right (by omega) (by omega)
          omega
        · exact h
    | succ k =>
      have := ih (by omega) h2 (by omega) k (by simpa using hk)
      simpa [List.getD] using this
theorem ConvergentsOf_no (p q : Int) (w : World) (h : isF p q = false) :
    Calls Try.prog 25 #[.agg #[.int .i64 p, .int .i64 q]] w fun e w' => ∃ v, e = .returned (.tuple #[v, .int .i64 1]) ∧ OwnF 2 w.heap.size w' v [] ∧ Below w.heap.size w w' := by
  have H := Lib.hid h
  clear h
  go_enter Try.func25, Try.ntmps25
  go_wp2_with fail
  refine (ContinuedOf_no p q _ H.out).mono ?_
  rintro e w1 ⟨v, rfl, ho, b1⟩
  go_wp2
  go_returns
  exact ⟨_, rfl, OwnF.nil, (by repeat' (first | (with_reducible exact Below.refl _ _) | (with_reducible assumption) | (with_reducible refine below_drewN ?_ _) | (with_reducible refine Below.drew ?_) | (with_reducible refine Below.alloc ?_ ?_ _) | (with_reducible refine Below.setCell ?_ ?_ _) | (with_reducible refine Below.trans ?_ (Below.mono (by with_reducible assumption) ?_)) | go_size | (dsimp only; omega)))⟩
theorem ConvergentsOf_inf (p q : Int) (w : World) (h : isF p q = true) (hq : q = 0) :
    Calls Try.prog 25 #[.agg #[.int .i64 p, .int .i64 q]] w fun e w' => ∃ v, e = .returned (.tuple #[v, .int .i64 5]) ∧ OwnF 2 w.heap.size w' v [] ∧ Below w.heap.size w w' := by
  have HQ := Lib.hid hq
  have H := Lib.hid h
  clear h hq
  go_enter Try.func25, Try.ntmps25
  go_wp2_with fail
  refine (ContinuedOf_inf p q _ H.out HQ.out).mono ?_
  rintro e w1 ⟨v, rfl, ho, b1⟩
  go_wp2
  go_returns
  exact ⟨_, rfl, OwnF.nil, (by repeat' (first | (with_reducible exact Below.refl _ _) | (with_reducible assumption) | (with_reducible refine below_drewN ?_ _) | (with_reducible refine Below.drew ?_) | (with_reducible refine Below.alloc ?_ ?_ _) | (with_reducible refine Below.setCell ?_ ?_ _) | (with_reducible refine Below.trans ?_ (Below.mono (by with_reducible assumption) ?_)) | go_size | (dsimp only; omega)))⟩
theorem ConvergentsOf_yes (p q : Int) (zs L : List Int) (w : World) (h : isF p q = true) (hq : q ≠ 0) (hc : Cont p q zs) (hl : zs.length ≤ 1000000001) (hC : convs 1 0 0 1 zs = some L) :
    Calls Try.prog 25 #[.agg #[.int .i64 p, .int .i64 q]] w fun e w' => ∃ v, e = .returned (.tuple #[v, .int .i64 0]) ∧ OwnF 2 w.heap.size w' v L ∧ Below w.heap.size w w' := by
  have hF := isF_iff.mp h
  have HE := Lib.hid (cont_ent hc (by omega) (by omega) (by omega))
  have hne : zs ≠ [] := by cases hc <;> simp_all
  have H := Lib.hid h
  have HC := Lib.hid hc
  have HCL := Lib.hid hC
  have HLL := Lib.hid (convs_len hC)
  clear hc h hF hC
  go_enter Try.func25, Try.ntmps25
  go_wp2_with fail
  refine (ContinuedOf_yes p q zs _ H.out hq HC.out hl).mono ?_
  rintro e w1 ⟨v, rfl, ho, b1⟩
  have z1 : w.heap.size ≤ w1.heap.size := by have := b1.size; simp at this; omega
  obtain ⟨e0, -⟩ | ⟨g, cp, rfl, hg0, hg1, hg2, -⟩ := ho
  · exact absurd e0 hne
  have HG := Lib.hid hg2
  clear hg2
  go_wp2_with fail
  refine (convergents_yes g 0 zs.length cp zs L _ hg1 (Lib.hid HG.out) (Lib.hid rfl) hl HE HCL HLL).mono ?_
  rintro e w2 ⟨v, rfl, ho, b2⟩
  have HO := Lib.hid ho
  clear ho
  go_wp2
  exact bodyPost_ret (v := .tuple #[v, .int .i64 0]) (by simp only [results, Try.results25]; go_simp) rfl ⟨v, rfl, HO.out.base (by have := b1.size; simp at this; omega), (by repeat' (first | (with_reducible exact Below.refl _ _) | (with_reducible assumption) | (with_reducible refine below_drewN ?_ _) | (with_reducible refine Below.drew ?_) | (with_reducible refine Below.alloc ?_ ?_ _) | (with_reducible refine Below.setCell ?_ ?_ _) | (with_reducible refine Below.trans ?_ (Below.mono (by with_reducible assumption) ?_)) | go_size | (dsimp only; omega)))⟩
theorem sConvergentsOf_no (p q : Int) (w : World) (h : isF p q = false) :
    Calls Try.prog 24 #[.agg #[.int .i64 p, .int .i64 q]] w fun e w' => ∃ v, e = .returned (.tuple #[v, .int .i64 1]) ∧ OwnF 2 w.heap.size w' v [] ∧ Below w.heap.size w w' := by
  have H := Lib.hid h
  clear h
  go_enter Try.func24, Try.ntmps24
  go_wp2_with fail
  refine (l01Fraction_c _ _ _).mono ?_
  rintro e w1 ⟨rfl, b1⟩
  have zzb1 := b1.size; (try simp at zzb1); have zb1_0 : w.heap.size < w1.heap.size := (by omega); have kcb1_0 : ∀ o, w1.cell? ⟨w.heap.size, o, none⟩ = _ := fun o => b1.cell (p := ⟨w.heap.size, o, none⟩) (by go_size); have kfb1_0 : ∀ o, w1.frozen? ⟨w.heap.size, o, none⟩ = _ := fun o => b1.frozen (p := ⟨w.heap.size, o, none⟩) (by go_size); clear zzb1
  rw [H.out]
  go_wp2
  go_returns
  exact ⟨_, rfl, OwnF.nil, (by repeat' (first | (with_reducible exact Below.refl _ _) | (with_reducible assumption) | (with_reducible refine below_drewN ?_ _) | (with_reducible refine Below.drew ?_) | (with_reducible refine Below.alloc ?_ ?_ _) | (with_reducible refine Below.setCell ?_ ?_ _) | (with_reducible refine Below.trans ?_ (Below.mono (by with_reducible assumption) ?_)) | go_size | (dsimp only; omega)))⟩
theorem sConvergentsOf_inf (p q : Int) (w : World) (h : isF p q = true) (hq : q = 0) :
    Calls Try.prog 24 #[.agg #[.int .i64 p, .int .i64 q]] w fun e w' => ∃ v, e = .returned (.tuple #[v, .int .i64 5]) ∧ OwnF 2 w.heap.size w' v [] ∧ Below w.heap.size w w' := by
  subst hq
  have H := Lib.hid h
  clear h
  go_enter Try.func24, Try.ntmps24
  go_wp2_with fail
  refine (l01Fraction_c _ _ _).mono ?_
  rintro e w1 ⟨rfl, b1⟩
  have zzb1 := b1.size; (try simp at zzb1); have zb1_0 : w.heap.size < w1.heap.size := (by omega); have kcb1_0 : ∀ o, w1.cell? ⟨w.heap.size, o, none⟩ = _ := fun o => b1.cell (p := ⟨w.heap.size, o, none⟩) (by go_size); have kfb1_0 : ∀ o, w1.frozen? ⟨w.heap.size, o, none⟩ = _ := fun o => b1.frozen (p := ⟨w.heap.size, o, none⟩) (by go_size); clear zzb1
  rw [H.out]
  go_wp2
  go_returns
  exact ⟨_, rfl, OwnF.nil, (by repeat' (first | (with_reducible exact Below.refl _ _) | (with_reducible assumption) | (with_reducible refine below_drewN ?_ _) | (with_reducible refine Below.drew ?_) | (with_reducible refine Below.alloc ?_ ?_ _) | (with_reducible refine Below.setCell ?_ ?_ _) | (with_reducible refine Below.trans ?_ (Below.mono (by with_reducible assumption) ?_)) | go_size | (dsimp only; omega)))⟩
theorem sConvergentsOf_yes (p q : Int) (zs L : List Int) (w : World) (h : isF p q = true) (hq : q ≠ 0) (hc : Cont p q zs) (hl : zs.length ≤ 1000000001) (hC : convs 1 0 0 1 zs = some L) :
    Calls Try.prog 24 #[.agg #[.int .i64 p, .int .i64 q]] w fun e w' => ∃ v, e = .returned (.tuple #[v, .int .i64 0]) ∧ OwnF 2 w.heap.size w' v L ∧ Below w.heap.size w w' := by
  have hF := isF_iff.mp h
  have HE := Lib.hid (cont_ent hc (by omega) (by omega) (by omega))
  have hne : zs ≠ [] := by cases hc <;> simp_all
  have hq' : (q == 0) = false := by simpa using hq
  have H := Lib.hid h
  have HC := Lib.hid hc
  have HCL := Lib.hid hC
  have HLL := Lib.hid (convs_len hC)
  clear hc h hF hC
  go_enter Try.func24, Try.ntmps24
  go_wp2_with fail
  refine (l01Fraction_c _ _ _).mono ?_
  rintro e w1 ⟨rfl, b1⟩
  have zzb1 := b1.size; (try simp at zzb1); have zb1_0 : w.heap.size < w1.heap.size := (by omega); have kcb1_0 : ∀ o, w1.cell? ⟨w.heap.size, o, none⟩ = _ := fun o => b1.cell (p := ⟨w.heap.size, o, none⟩) (by go_size); have kfb1_0 : ∀ o, w1.frozen? ⟨w.heap.size, o, none⟩ = _ := fun o => b1.frozen (p := ⟨w.heap.size, o, none⟩) (by go_size); clear zzb1
  rw [H.out]
  go_wp2_with fail
  refine (l03Continued_c p q _ zs H.out HC.out hl).mono ?_
  rintro e w2 ⟨v, rfl, ho, b2⟩
  have z2 : w.heap.size ≤ w2.heap.size := by have := b1.size; have := b2.size; simp at *; omega
  obtain ⟨e0, -⟩ | ⟨g, cp, rfl, hg0, hg1, hg2, -⟩ := ho
  · exact absurd e0 hne
  have HG := Lib.hid hg2
  clear hg2
  go_wp2_with fail
  refine (l03Convergents_yes g 0 zs.length cp zs L _ hg1 (Lib.hid HG.out) (Lib.hid rfl) hl HE HCL HLL).mono ?_
  rintro e w3 ⟨v, rfl, ho, b3⟩
  have HO := Lib.hid ho
  clear ho
  go_wp2
  exact bodyPost_ret (v := .tuple #[v, .int .i64 0]) (by simp only [results, Try.results24]; go_simp) rfl ⟨v, rfl, HO.out.base (by have := b1.size; have := b2.size; simp at *; omega), (by repeat' (first | (with_reducible exact Below.refl _ _) | (with_reducible assumption) | (with_reducible refine below_drewN ?_ _) | (with_reducible refine Below.drew ?_) | (with_reducible refine Below.alloc ?_ ?_ _) | (with_reducible refine Below.setCell ?_ ?_ _) | (with_reducible refine Below.trans ?_ (Below.mono (by with_reducible assumption) ?_)) | go_size | (dsimp only; omega)))⟩
theorem FnExactConvergentsOf_w (p0 q0 : Int) (W : World) :
    Calls Try.prog 6 #[.agg #[.int .i64 p0, .int .i64 q0]] W fun e w' => e = .returned (.bool true) ∧ Below W.heap.size W w' := by
  cases h : isF p0 q0
  · exact ConvergentsOf_law p0 q0 1 W [] (by simp) (Lib.hid (fun w => ConvergentsOf_no _ _ w h)) (Lib.hid (fun w => sConvergentsOf_no _ _ w h))
  · by_cases hq : q0 = 0
    · exact ConvergentsOf_law p0 q0 5 W [] (by simp) (Lib.hid (fun w => ConvergentsOf_inf _ _ w h hq)) (Lib.hid (fun w => sConvergentsOf_inf _ _ w h hq))
    · have hF := isF_iff.mp h
      obtain ⟨zs, hc, hl⟩ := Plain.cont_exists 1000000000 p0 q0 (by omega) (by omega)
      obtain ⟨L, hL⟩ := convs_own (by omega) (by omega) (by omega) (by omega) hc
      have hll := convs_len hL
      exact ConvergentsOf_law p0 q0 0 W L (by omega) (Lib.hid (fun w => ConvergentsOf_yes _ _ _ _ w h hq hc (by omega) hL)) (Lib.hid (fun w => sConvergentsOf_yes _ _ _ _ w h hq hc (by omega) hL))
end Go.Proofs.Ytgchbjlkbfdbdaa
