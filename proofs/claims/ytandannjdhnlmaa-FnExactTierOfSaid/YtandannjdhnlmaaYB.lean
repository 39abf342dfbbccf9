/- TierOf: the sort of a row that stands in order already. -/
import Derived.Test.YtandannjdhnlmaaYA
import Derived.Test.YtandannjdhnlmaaSS
namespace Go.Proofs.Ytandannjdhnlmaa
open Go.RowKit Go.Sort Go.Shelf Go.Lib
set_option linter.unusedVariables false
set_option linter.unusedSimpArgs false
/-- fraction number i of the tier -/
def tq (n : Nat) (i : Fin (2 ^ n)) : Int × Int := (T n)[i.val]'(by rw [T_len]; exact i.isLt)
def encQ (n : Nat) (i : Fin (2 ^ n)) : List Value := [.int .i64 (tq n i).1, .int .i64 (tq n i).2]
def cfQ (n : Nat) (i j : Fin (2 ^ n)) : Int := cmpF (tq n i).1 (tq n i).2 (tq n j).1 (tq n j).2
theorem tq_small {n : Nat} (h : n ≤ 7) (i : Fin (2 ^ n)) : 0 ≤ (tq n i).1 ∧ (tq n i).1 ≤ 1000 ∧ 0 ≤ (tq n i).2 ∧ (tq n i).2 ≤ 1000 := by
  have h1 := T_srt h
  rw [Bool.and_eq_true] at h1
  have h2 := List.all_eq_true.mp h1.2 (tq n i) (List.getElem_mem _)
  unfold smallQ at h2
  simp only [Bool.and_eq_true, decide_eq_true_eq] at h2
  omega
theorem tq_lt {n : Nat} (h : n ≤ 7) {i j : Fin (2 ^ n)} (hij : i.val < j.val) : (tq n i).1 * (tq n j).2 < (tq n j).1 * (tq n i).2 := by
  have h1 := T_srt h
  rw [Bool.and_eq_true] at h1
  have h2 := srtQ_lt h1.1 i.val j.val (by rw [T_len]; exact j.isLt) hij
  unfold lessQ at h2
  exact of_decide_eq_true h2
theorem cf_lt {n : Nat} (h : n ≤ 7) (i j : Fin (2 ^ n)) : ltOf (cfQ n) i j = decide (i.val < j.val) := by
  unfold ltOf cfQ cmpF sgn
  rcases Nat.lt_trichotomy i.val j.val with hl | he | hg
  · have := tq_lt h hl
    rw [if_pos (by omega)]
    simp [hl]
  · have e : i = j := Fin.ext he
    subst e
    rw [if_neg (by omega), if_neg (by omega)]
    simp
  · have := tq_lt h hg
    rw [if_neg (by omega), if_pos (by omega)]
    simp; omega
theorem swoQ {n : Nat} (h : n ≤ 7) : SWO (ltOf (cfQ n)) where
  irrefl i := by rw [cf_lt h]; simp
  trans i j k h1 h2 := by rw [cf_lt h] at *; simp at *; omega
  ntrans i j k h1 h2 := by rw [cf_lt h] at *; simp at *; omega
theorem compare_g (p q p' q' : Int) (W : World) (h0 : -9000000000000000000 ≤ p * q' ∧ p * q' ≤ 9000000000000000000) (h1 : -9000000000000000000 ≤ p' * q ∧ p' * q ≤ 9000000000000000000) (h2 : -9000000000000000000 ≤ p * q' - p' * q ∧ p * q' - p' * q ≤ 9000000000000000000) :
    Calls Try.prog 15 #[.agg #[.int .i64 p, .int .i64 q], .agg #[.int .i64 p', .int .i64 q']] W fun e w' => e = .returned (.int .i64 (cmpF p q p' q')) ∧ ∃ m os', w' = grow (W.drewN m) os' := by
  obtain ⟨a0, a1⟩ := h0
  obtain ⟨b0, b1⟩ := h1
  obtain ⟨c0, c1⟩ := h2
  go_enter Try.func15, Try.ntmps15
  go_wp2_with fail
  refine (sign_c _ _).mono ?_
  rintro e w1 ⟨rfl, rfl⟩
  go_wp2
  go_returns
  exact ⟨rfl, 0, _, by rw [alloc_eq_grow, alloc_eq_grow, grow_grow]; rfl⟩
theorem closure_g (p q p' q' : Int) (W : World) (h0 : -9000000000000000000 ≤ p * q' ∧ p * q' ≤ 9000000000000000000) (h1 : -9000000000000000000 ≤ p' * q ∧ p' * q ≤ 9000000000000000000) (h2 : -9000000000000000000 ≤ p * q' - p' * q ∧ p * q' - p' * q ≤ 9000000000000000000) :
    Calls Try.prog 14 #[.agg #[.int .i64 p, .int .i64 q], .agg #[.int .i64 p', .int .i64 q']] W fun e w' => e = .returned (.int .i64 (cmpF p q p' q')) ∧ ∃ m os', w' = grow (W.drewN m) os' := by
  have K := Lib.hid (fun W => compare_g p q p' q' W h0 h1 h2)
  clear h0 h1 h2
  go_enter Try.func14, Try.ntmps14
  go_wp2_with fail
  refine (K.out _).mono ?_
  rintro e w1 ⟨rfl, m, os, rfl⟩
  go_wp2
  go_returns
  exact ⟨rfl, m, _, by rw [alloc_eq_grow, alloc_eq_grow, grow_grow]; show grow (grow (W.drewN m) _) _ = _; rw [grow_grow]⟩
theorem mul_small {a b : Int} (ha : 0 ≤ a) (ha1 : a ≤ 1000) (hb : 0 ≤ b) (hb1 : b ≤ 1000) : 0 ≤ a * b ∧ a * b ≤ 1000000 := by
  constructor
  · exact Int.mul_nonneg ha hb
  · have h1 : a * b ≤ 1000 * b := Int.mul_le_mul_of_nonneg_right ha1 hb
    omega
theorem flatQ_at : ∀ (l : List (Int × Int)) (i : Nat) (hi : i < l.length), (flatQ l).getD (i * 2) 0 = l[i].1 ∧ (flatQ l).getD (i * 2 + 1) 0 = l[i].2
  | [], i, hi => by simp at hi
  | x :: l, 0, _ => ⟨rfl, rfl⟩
  | x :: l, i + 1, hi => by
    have h := flatQ_at l i (by simpa using hi)
    have e : flatQ (x :: l) = x.1 :: x.2 :: flatQ l := rfl
    rw [e, show (i + 1) * 2 = i * 2 + 1 + 1 by omega, show i * 2 + 1 + 1 + 1 = i * 2 + 1 + 1 + 1 from rfl]
    simpa using h
theorem cmpLaysQ {n : Nat} (h : n ≤ 7) (blk off size : Nat) (w : World) : CmpLays Try.prog 14 #[] (encQ n) 2 (cfQ n) blk off size w := by
  intro m os dk hs i j
  have hi := tq_small h i
  have hj := tq_small h j
  have m1 := mul_small hi.1 hi.2.1 hj.2.2.1 hj.2.2.2
  have m2 := mul_small hj.1 hj.2.1 hi.2.2.1 hi.2.2.2
  exact closure_g _ _ _ _ _ (by omega) (by omega) (by omega)
set_option maxHeartbeats 1000000 in
theorem sort_c {n : Nat} (h : n ≤ 7) (g cap : Nat) (w : World) (hg : g < w.heap.size) (hr : ∀ j, j < 2 ^ n * 2 → w.cell? ⟨g, 0 + j, none⟩ = some (.int .i64 ((flatQ (T n)).getD j 0))) (hf : ∀ i, w.frozen? ⟨g, i, none⟩ = false) :
    Calls Try.prog 13 #[.slice (some ⟨g, 0, none⟩) (2 ^ n) cap, .func (.func 14) #[] #[]] w fun e w' => e = .returned (.tuple #[]) ∧ Below w.heap.size w w' := by
  letI : Inhabited (Fin (2 ^ n)) := ⟨⟨0, Nat.two_pow_pos n⟩⟩
  have eg : ∀ args w, (callFunc 14 args).run Try.prog w = .ok (.enter 14 args) w := enters_of Try.func14 (by kernel_rfl) rfl
  have hd : (Array.ofFn (fun i : Fin (2 ^ n) => i)).size = 2 ^ n := by simp
  have hH : HoldsK (encQ n) 2 w g 0 (Array.ofFn (fun i : Fin (2 ^ n) => i)) := by
    intro j hj
    rw [size_flatK, hd] at hj
    have hj2 : j / 2 < 2 ^ n := by omega
    refine ⟨?_, hf _⟩
    rw [hr j hj]
    show _ = some (flatK (encQ n) 2 (Array.ofFn (fun i : Fin (2 ^ n) => i)))[j]!
    rw [get_flatK _ _ _ _ (by rw [hd]; exact hj)]
    have hget : (Array.ofFn (fun i : Fin (2 ^ n) => i))[j / 2]! = ⟨j / 2, hj2⟩ := by
      rw [getElem!_pos _ _ (by rw [hd]; exact hj2)]
      simp
    rw [hget]
    obtain ⟨f1, f2⟩ := flatQ_at (T n) (j / 2) (by rw [T_len]; exact hj2)
    rcases (show j % 2 = 0 ∨ j % 2 = 1 by omega) with h0 | h0
    · rw [show j / 2 * 2 = j by omega] at f1
      rw [h0, f1]
      simp [encQ, tq]
    · rw [show j / 2 * 2 + 1 = j by omega] at f2
      rw [h0, f2]
      simp [encQ, tq]
  have K := AnyQ.slices_SortFunc_total Try.sortQ 2 Try.isAgg31 Try.sizeOf31 (encQ n) (fun _ => rfl) (fun x v hv => by simp [encQ] at hv; rcases hv with rfl | rfl <;> rfl) (cfQ n) (swoQ h) 14 #[] g 0 cap _ w eg (cmpLaysQ h g 0 _ w) hH hg (by rw [hd]; have := pow2_le h; omega) (by
    intro i j h1 h2
    rw [cf_lt h] at h1 h2
    simp at h1 h2
    exact Fin.ext (by omega))
  have hs : ((Array.ofFn (fun i : Fin (2 ^ n) => i)).toList.mergeSort fun x y => !(ltOf (cfQ n)) y x).toArray = Array.ofFn (fun i : Fin (2 ^ n) => i) := by
    rw [List.mergeSort_of_pairwise]
    rw [Array.toList_ofFn, List.pairwise_iff_getElem]
    intro i j hi hj hij
    rw [List.getElem_ofFn, List.getElem_ofFn, cf_lt h]
    simp
    omega
  rw [hs, hd] at K
  refine K.mono ?_
  rintro e w' ⟨rfl, m, os, rfl⟩
  refine ⟨rfl, ?_⟩
  unfold sortWorldK putRowK
  have hself : putRow id w g 0 (flatK (encQ n) 2 (Array.ofFn (fun i : Fin (2 ^ n) => i))) = w := putRow_self id w g 0 _ hH
  rw [putRow_ahead, hself]
  exact ⟨rfl, rfl, rfl, by simp [grow, Go.Sort.ahead], fun k hk => heap_grow_old (Go.Sort.ahead w m) os hk⟩
end Go.Proofs.Ytandannjdhnlmaa
