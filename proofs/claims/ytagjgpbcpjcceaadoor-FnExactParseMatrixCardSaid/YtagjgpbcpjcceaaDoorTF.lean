/- The numbers of a text: the reference's l01Numbers. -/
import Derived.Test.YtagjgpbcpjcceaaDoorTE
namespace Go.Proofs.YtagjgpbcpjcceaaDoor
open Go.RowKit
set_option linter.unusedVariables false
set_option linter.unusedSimpArgs false
theorem parts_len (y : UInt8) (l : List UInt8) : ∀ p ∈ parts y l, p.length ≤ l.length := by
  induction l with
  | nil => intro p hp; simp [parts] at hp; simp [hp]
  | cons x l ih =>
    intro p hp
    unfold parts at hp
    split at hp
    · rcases List.mem_cons.mp hp with rfl | hp
      · simp
      · have := ih p hp; simp; omega
    · cases hq : parts y l with
      | nil => exact absurd hq (parts_ne y l)
      | cons h t =>
        rw [hq] at hp ih
        rcases List.mem_cons.mp hp with rfl | hp
        · have := ih h (by simp); simp; omega
        · have := ih p (by simp [hp]); simp; omega
theorem parts_count (y : UInt8) (l : List UInt8) : (parts y l).length ≤ l.length + 1 := by
  induction l with
  | nil => simp [parts]
  | cons x l ih =>
    unfold parts
    split
    · simp; omega
    · cases hq : parts y l with
      | nil => simp
      | cons h t => rw [hq] at ih; simp at ih ⊢; omega
/-- all parts are numbers -/
noncomputable def okP (ps : List (List UInt8)) : Bool := ps.all fun p => (sigV p).2
noncomputable def numsP (ps : List (List UInt8)) : List Int := ps.map fun p => (sigV p).1
set_option maxRecDepth 100000 in
set_option maxHeartbeats 4000000 in
theorem l01Numbers_c (s : ByteArray) (y : UInt8) (w : World) (hs : s.size ≤ 1000000000) :
    Calls Tryd.prog 51 #[.string s, .int .u8 y.toNat] w fun e w' => ∃ v, e = .returned (.tuple #[v, .bool (okP (parts y s.data.toList))]) ∧ Hid (okP (parts y s.data.toList) = true → OwnI w.heap.size w' v (numsP (parts y s.data.toList))) ∧ Below w.heap.size w w' := by
  have hpl := parts_len y s.data.toList
  have hpc := parts_count y s.data.toList
  have hlen : s.data.toList.length = s.size := by simp
  rw [hlen] at hpl hpc
  obtain ⟨i0, hi, hz0, hz1, hz2⟩ := info_parts info_i64
  have KS := Lib.hid (fun w => l01Split_c s y w hs)
  generalize parts y s.data.toList = ps at *
  obtain ⟨B, hB0⟩ : ∃ B, okP ps = B := ⟨_, rfl⟩
  rw [hB0]
  have HB := Lib.hid hB0
  have HPL := Lib.hid hpl
  generalize hn : ps.length = n at *
  have HN := Lib.hid hn
  clear hB0 hpl hlen hn
  go_enter Tryd.func51, Tryd.ntmps51
  go_wp2_with fail
  refine (KS.out _).mono ?_
  rintro e w1 ⟨g, cap, rfl, hg0, hg1, HC, b1⟩
  have hown0 := own_new w1 w1.heap.size 2 1 (Nat.le_refl _)
  have hz1' := b1.size
  go_wp2
  go_loopw [7, 8] (fun v i wr => ∃ (k : Nat), i = .int .i64 k ∧ k ≤ n ∧ Hid (∀ j p, j < k → ps[j]? = some p → (sigV p).2 = true) ∧ wr.ownsRow w1.heap.size 2 1 v k (((numsP ps).take k).map (Value.int .i64)) ∧ Below w1.heap.size w1 wr) (fun v i wr => n - (intOf i).toNat)
  case atStart => exact ⟨0, rfl, by omega, Lib.hid (by intro j p h; omega), by simpa using hown0, (by repeat' (first | (with_reducible exact Below.refl _ _) | (with_reducible assumption) | (with_reducible refine below_drewN ?_ _) | (with_reducible refine Below.drew ?_) | (with_reducible refine Below.alloc ?_ ?_ _) | (with_reducible refine Below.setCell ?_ ?_ _) | (with_reducible refine Below.trans ?_ (Below.mono (by with_reducible assumption) ?_)) | go_size | (dsimp only; omega)))⟩
  case round =>
    obtain ⟨k, rfl, hk, HG, hown, hB⟩ := hrel
    clear hown0
    by_cases hlt : k < n
    · have hki : (k : Int) < (n : Int) := by omega
      have hkl : k < ps.length := by rw [HN.out]; exact hlt
      obtain ⟨p, hp⟩ : ∃ p, ps[k]? = some p := ⟨ps[k], List.getElem?_eq_getElem hkl⟩
      have hpm : p ∈ ps := List.mem_of_getElem? hp
      have hps : (⟨p.toArray⟩ : ByteArray).size ≤ 1000000000000 := by have := HPL.out p hpm; show p.toArray.size ≤ _; simp; omega
      have q1 : wr.cell? ⟨g, k, none⟩ = some (.string ⟨p.toArray⟩) := by
        rw [hB.cell (p := ⟨g, k, none⟩) hg1]; have := HC.out k p hp; simpa only [Nat.zero_add, str] using this
      have htk : ((numsP ps).take (k + 1)).map (Value.int .i64) = ((numsP ps).take k).map (Value.int .i64) ++ [.int .i64 (sigV p).1] := by
        have hnk : k < (numsP ps).length := by simp [numsP]; exact hkl
        have hv : (numsP ps)[k] = (sigV p).1 := by
          rw [List.getElem?_eq_getElem hkl] at hp
          simp [numsP, Option.some.inj hp]
        rw [List.take_succ_eq_append_getElem hnk, hv]; simp
      have HTK := Lib.hid htk
      have KP := Lib.hid (fun w => l01Signed_c ⟨p.toArray⟩ w hps)
      have HP := Lib.hid hp
      clear htk hps hpm hkl hp
      cases hs2 : (sigV p).2
      · obtain rfl : B = false := by
          rw [← HB.out]
          unfold okP
          rw [List.all_eq_false]
          exact ⟨p, List.mem_of_getElem? HP.out, by rw [hs2]; simp⟩
        have HS2 := Lib.hid hs2
        clear hs2
        go_wp2_with fail
        refine (KP.out _).mono ?_
        rintro e w2 ⟨rfl, rfl⟩
        rw [show (sigV (⟨p.toArray⟩ : ByteArray).data.toList).2 = false from HS2.out]
        go_wp2
        go_returns
        exact ⟨_, rfl, Lib.hid (fun h => by cases h), Below.trans b1 (Below.mono hB (by omega))⟩
      · have HG2 : Hid (∀ j p, j < k + 1 → ps[j]? = some p → (sigV p).2 = true) := by
          apply Lib.hid
          intro j q hj hq
          by_cases e : j = k
          · subst e
            rw [HP.out] at hq
            rw [← Option.some.inj hq]; exact hs2
          · exact HG.out j q (by omega) hq
        have HS2 := Lib.hid hs2
        clear hs2
        go_wp2_with fail
        refine (KP.out _).mono ?_
        rintro e w2 ⟨rfl, rfl⟩
        rw [show (sigV (⟨p.toArray⟩ : ByteArray).data.toList).2 = true from HS2.out, show (sigV (⟨p.toArray⟩ : ByteArray).data.toList).1 = (sigV p).1 from rfl]
        generalize (sigV p).1 = z at *
        go_wp2_with (at_builtin; refine wpList_append_own _ rfl _ _ 45 rfl w1.heap.size 2 i0 (.int .i64 0) 1 8 under_i64s hi hz0 hz1 hz2 rfl (by decide) _ _ _ rfl (hown.alloc _) ⟨wr.heap.size, 0, none⟩ 1 1 [.int .i64 z] rfl rfl (cell_one_new _ _ _) (fun x hx => by simp at hx; subst hx; rfl) (by unfold maxLen; omega) (by omega) (by simp; have := hB.size; omega) ?_; intro v' w3 hown3 hgrow3 hnil3)
        have hB3 : Below w1.heap.size w1 w3 := Below.grown (Below.alloc hB hB.size _) hgrow3 (by simp; have := hB.size; omega) (fun k hk => (hown.lt k hk).1)
        go_roundw
        case rel => exact ⟨k + 1, by go_num, by omega, HG2, (by rw [HTK.out]; exact hown3), hB3⟩
        case measure => simp [intOf]; omega
    · obtain rfl : k = n := by omega
      obtain rfl : B = true := by
        rw [← HB.out]
        unfold okP
        apply List.all_eq_true.mpr
        intro p hp
        obtain ⟨j, hj⟩ := List.getElem?_of_mem hp
        exact HG.out j p (by have := (List.getElem?_eq_some_iff.mp hj).1; rw [HN.out] at this; exact this) hj
      have hnl : (numsP ps).length = k := by unfold numsP; rw [List.length_map, HN.out]
      rw [List.take_of_length_le (by rw [hnl]; exact Nat.le_refl _), ← hnl] at hown
      have HO := Lib.hid ((OwnI.of_row hown).base (B' := w.heap.size) (by omega))
      clear hown hnl
      go_wp2
      go_returns
      exact ⟨_, rfl, Lib.hid (by first | exact HO.out | exact fun _ => HO.out), Below.trans b1 (Below.mono hB (by omega))⟩
end Go.Proofs.YtagjgpbcpjcceaaDoor
