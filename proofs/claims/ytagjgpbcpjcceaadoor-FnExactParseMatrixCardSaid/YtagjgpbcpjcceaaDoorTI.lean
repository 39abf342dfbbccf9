/- ParseFraction, ParseMatrix: the program's walks; the laws. -/
import Derived.Test.YtagjgpbcpjcceaaDoorTH
import Derived.Test.YtagjgpbcpjcceaaDoorK
import Derived.LaidMore
import Derived.Laws.Cover3
import Derived.HandedShaped
import Derived.Shelf.Vars
namespace Go.Proofs.YtagjgpbcpjcceaaDoor
open Go.RowKit
set_option linter.unusedVariables false
set_option linter.unusedSimpArgs false
theorem itoa_no {y : UInt8} (hy : y = 44 ∨ y = 47) (z : Int) : y ∉ Lib.itoa z := by
  have key : ∀ u : Nat, y ∉ Lib.decDigits u := by
    intro u hm
    obtain ⟨c1, -, -⟩ := dec_canon u u (Nat.le_refl _)
    have := digit_iff.mp (List.all_eq_true.mp c1.dig y hm)
    rcases hy with rfl | rfl <;> simp at this
  unfold Lib.itoa
  split
  · intro hm
    rcases List.mem_cons.mp hm with e | hm
    · rcases hy with rfl | rfl <;> cases e
    · exact key _ hm
  · exact key _
theorem sig_map {vs : List Int} (h : ∀ v ∈ vs, -1000000000 ≤ v ∧ v ≤ 1000000000) : okP (vs.map Lib.itoa) = true ∧ numsP (vs.map Lib.itoa) = vs := by
  constructor
  · unfold okP
    apply List.all_eq_true.mpr
    intro p hp
    obtain ⟨v, hv, rfl⟩ := List.mem_map.mp hp
    rw [itoa_sigV (h v hv).1 (h v hv).2]
  · unfold numsP
    rw [List.map_map]
    conv => rhs; rw [← List.map_id vs]
    apply List.map_congr_left
    intro v hv
    show (sigV (Lib.itoa v)).1 = v
    rw [itoa_sigV (h v hv).1 (h v hv).2]
theorem to_parts {y : UInt8} (hy : y = 44 ∨ y = 47) {vs : List Int} {l : List UInt8} (hne : vs ≠ []) (h : ∀ v ∈ vs, -1000000000 ≤ v ∧ v ≤ 1000000000) (hj : joinT vs y = l) : okP (parts y l) = true ∧ numsP (parts y l) = vs := by
  have hp : parts y l = vs.map Lib.itoa := by
    rw [← hj]
    unfold joinT
    cases vs with
    | nil => exact absurd rfl hne
    | cons v r =>
      rw [List.map_cons]
      apply parts_join
      intro w hw
      rw [← List.map_cons] at hw
      obtain ⟨z, _, rfl⟩ := List.mem_map.mp hw
      exact itoa_no hy z
  rw [hp]
  exact sig_map h
theorem of_parts {y : UInt8} {l : List UInt8} {vs : List Int} {n k : Nat} (ho : okP (parts y l) = true) (hz : numsP (parts y l) = vs) (hl : vs.length = n) (hk : n ≤ k + 1) (h : ∀ v ∈ vs, -1000000000 ≤ v ∧ v ≤ 1000000000) :
    flagP (Lib.splitK [y] 0 k l) n y l = true ∧ valsP (Lib.splitK [y] 0 k l) = vs := by
  have hpi : parts y l = vs.map Lib.itoa := by
    rw [← hz]
    unfold numsP
    rw [List.map_map]
    conv => lhs; rw [← List.map_id (parts y l)]
    apply List.map_congr_left
    intro p hp
    exact (sigV_itoa (List.all_eq_true.mp (show (parts y l).all (fun p => (sigV p).2) = true from ho) p hp)).symm
  have hlen : (parts y l).length = n := by rw [hpi, List.length_map, hl]
  rw [(splitK_parts y k l).1 (by omega)]
  have hpv : ∀ v ∈ vs, pv (Lib.itoa v) = some v := by
    intro v hv
    unfold pv
    rw [parse_itoa (h v hv).1 (h v hv).2]
  have hv : valsP (parts y l) = vs := by
    rw [hpi]
    unfold valsP
    rw [List.map_map]
    conv => rhs; rw [← List.map_id vs]
    apply List.map_congr_left
    intro v hv
    show (pv (Lib.itoa v)).getD 0 = v
    rw [hpv v hv]; rfl
  refine ⟨?_, hv⟩
  unfold flagP
  rw [hv]
  have ha : allP (parts y l) = true := by
    unfold allP
    rw [hpi]
    apply List.all_eq_true.mpr
    intro p hp
    obtain ⟨v, hv, rfl⟩ := List.mem_map.mp hp
    rw [hpv v hv]; rfl
  have hj : joinT vs y = l := by
    unfold joinT
    rw [← hpi]
    exact join_parts y l
  rw [ha, hl, hj]
  simp
theorem splitK_short (y : UInt8) : ∀ (k : Nat) (l : List UInt8), ∀ q ∈ Lib.splitK [y] 0 k l, q.length ≤ l.length := by
  intro k
  induction k with
  | zero => intro l q hq; have : q = l := by simpa [Lib.splitK] using hq
            rw [this]; exact Nat.le_refl _
  | succ k ih =>
    intro l q hq
    unfold Lib.splitK at hq
    split at hq
    · have : q = l := by simpa using hq
      rw [this]; exact Nat.le_refl _
    · rcases List.mem_cons.mp hq with rfl | hq
      · rw [List.length_take]; omega
      · have := ih _ q hq
        rw [List.length_drop] at this; omega
theorem Fplain (l : List UInt8) (k : Nat) (hk : 2 ≤ l.length + 1 → 2 ≤ k + 1) :
    (flagP (Lib.splitK [47] 0 k l) 2 47 l = false → parseF l = .tuple #[.agg #[.int .i64 0, .int .i64 0], .int .i64 6]) ∧
    (∀ a b : Int, flagP (Lib.splitK [47] 0 k l) 2 47 l = true → valsP (Lib.splitK [47] 0 k l) = [a, b] → parseF l = if isF a b = true then .tuple #[.agg #[.int .i64 a, .int .i64 b], .int .i64 0] else .tuple #[.agg #[.int .i64 0, .int .i64 0], .int .i64 6]) := by
  have back : readF l = true → ∃ a b : Int, numsP (parts 47 l) = [a, b] ∧ isF a b = true ∧ flagP (Lib.splitK [47] 0 k l) 2 47 l = true ∧ valsP (Lib.splitK [47] 0 k l) = [a, b] := by
    intro h
    unfold readF at h
    rw [Bool.and_eq_true, Bool.and_eq_true] at h
    obtain ⟨⟨ho, hl⟩, hf⟩ := h
    have hl : (numsP (parts 47 l)).length = 2 := by simpa using hl
    obtain ⟨a, b, hz⟩ : ∃ a b : Int, numsP (parts 47 l) = [a, b] := by
      match hq : numsP (parts 47 l), hl with
      | [x0, x1], _ => exact ⟨x0, x1, rfl⟩
    have hf' : isF a b = true := by rw [hz] at hf; exact hf
    have hF := isF_iff.mp hf'
    have h8 := parts_count 47 l
    have h9 : (parts 47 l).length = 2 := by rw [← hl]; unfold numsP; rw [List.length_map]
    obtain ⟨h1, h2⟩ := of_parts (n := 2) (k := k) ho hz rfl (hk (by omega)) (by intro v hv; simp only [List.mem_cons, List.not_mem_nil, or_false] at hv; rcases hv with rfl | rfl <;> omega)
    exact ⟨a, b, hz, hf', h1, h2⟩
  constructor
  · intro hfl
    unfold parseF
    rw [if_neg]
    intro h
    obtain ⟨a, b, -, -, h1, -⟩ := back h
    rw [hfl] at h1; cases h1
  · intro a b hfl hv
    by_cases hf : isF a b = true
    · have hF := isF_iff.mp hf
      rw [if_pos hf]
      have hj : joinT [a, b] 47 = l := by
        unfold flagP at hfl
        rw [Bool.and_eq_true, hv] at hfl
        simpa using hfl.2
      obtain ⟨h1, h2⟩ := to_parts (y := 47) (by decide) (by simp) (by intro v hv; simp only [List.mem_cons, List.not_mem_nil, or_false] at hv; rcases hv with rfl | rfl <;> omega) hj
      unfold parseF
      have hr : readF l = true := by
        unfold readF
        rw [h1, h2]
        simpa using hf
      rw [if_pos hr, h2]
      rfl
    · rw [if_neg hf]
      unfold parseF
      rw [if_neg]
      intro h
      obtain ⟨a', b', -, h2, -, h4⟩ := back h
      rw [hv] at h4
      injection h4 with e1 h4
      subst e1
      injection h4 with e2 h4
      subst e2
      exact hf h2
set_option maxRecDepth 100000 in
set_option maxHeartbeats 4000000 in
theorem ParseFraction_c (s : ByteArray) (w : World) (m : Int) (t1 t2 : TypeId) (p1 p2 : Value) (hs : s.size ≤ 1000000000) (VV : Hid (Vars w m t1 t2 p1 p2)) :
    Calls Tryd.prog 18 #[.string s] w fun e w' => e = .returned (parseF s.data.toList) ∧ Below w.heap.size w w' := by
  have hlen : s.data.toList.length = s.size := by simp
  obtain ⟨hno, hyes⟩ := Fplain s.data.toList (min (2 + 1) (s.size + 1) - 1) (by rw [hlen]; omega)
  have hql := splitK_short 47 (min (2 + 1) (s.size + 1) - 1) s.data.toList
  obtain ⟨qs, hqs⟩ : ∃ qs, Lib.splitK [47] 0 (min (2 + 1) (s.size + 1) - 1) s.data.toList = qs := ⟨_, rfl⟩
  rw [hqs] at hno hyes hql
  have hV1 : ∀ o, Vars (w.alloc o) m t1 t2 p1 p2 := fun o => VV.out.later (Below.alloc (Below.refl _ _) (Nat.le_refl _) _)
  have KN := fun (o : Obj) => numbersOf_c s 47 2 (w.alloc o) m t1 t2 p1 p2 hs (by omega) (by omega) (Lib.hid (hV1 o)) qs hqs.symm (fun q hq => by have := hql q hq; omega)
  have HKN := Lib.hid KN
  clear KN hV1 hql hqs
  cases hfl : flagP qs 2 47 s.data.toList
  · rw [hno hfl]
    rw [hfl] at HKN
    clear hno hyes hfl hlen
    go_enter Tryd.func18, Tryd.ntmps18
    go_wp2_with fail
    refine (HKN.out _).mono ?_
    rintro e w1 ⟨v, rfl, -, b1⟩
    have zzb1 := b1.size; (try simp at zzb1); have zb1_0 : w.heap.size < w1.heap.size := (by omega); have kcb1_0 : ∀ o, w1.cell? ⟨w.heap.size, o, none⟩ = _ := fun o => b1.cell (p := ⟨w.heap.size, o, none⟩) (by go_size); have kfb1_0 : ∀ o, w1.frozen? ⟨w.heap.size, o, none⟩ = _ := fun o => b1.frozen (p := ⟨w.heap.size, o, none⟩) (by go_size); clear zzb1
    go_wp2
    exact bodyPost_ret (v := .tuple #[.agg #[.int .i64 0, .int .i64 0], .int .i64 6]) (by simp only [results, Tryd.results18]; go_simp) rfl ⟨rfl, (by repeat' (first | (with_reducible exact Below.refl _ _) | (with_reducible assumption) | (with_reducible refine below_drewN ?_ _) | (with_reducible refine Below.drew ?_) | (with_reducible refine Below.alloc ?_ ?_ _) | (with_reducible refine Below.setCell ?_ ?_ _) | (with_reducible refine Below.trans ?_ (Below.mono (by with_reducible assumption) ?_)) | go_size | (dsimp only; omega)))⟩
  · obtain ⟨a, b, hz⟩ : ∃ a b : Int, valsP qs = [a, b] := by
      have hl : (valsP qs).length = 2 := by
        unfold flagP at hfl
        rw [Bool.and_eq_true, Bool.and_eq_true] at hfl
        simpa using hfl.1.2
      match hq : valsP qs, hl with
      | [x0, x1], _ => exact ⟨x0, x1, rfl⟩
    rw [hyes a b hfl hz]
    have HFL := Lib.hid hfl
    have HZ := Lib.hid hz
    clear hno hyes hlen hz hfl
    cases hf : isF a b
    · rw [if_neg (by simp)]
      have HF := Lib.hid hf
      clear hf
      go_enter Tryd.func18, Tryd.ntmps18
      go_wp2_with fail
      refine (HKN.out _).mono ?_
      rintro e w1 ⟨v, rfl, hv, b1⟩
      have hv2 := hv.out HFL.out
      rw [HFL.out]
      rw [HZ.out] at hv2
      rcases hv2 with ⟨h, _⟩ | ⟨g, cg, rfl, hg0, hg1, hg2, -⟩
      · cases h
      have zzb1 := b1.size; (try simp at zzb1); have zb1_0 : w.heap.size < w1.heap.size := (by omega); have kcb1_0 : ∀ o, w1.cell? ⟨w.heap.size, o, none⟩ = _ := fun o => b1.cell (p := ⟨w.heap.size, o, none⟩) (by go_size); have kfb1_0 : ∀ o, w1.frozen? ⟨w.heap.size, o, none⟩ = _ := fun o => b1.frozen (p := ⟨w.heap.size, o, none⟩) (by go_size); clear zzb1
      have q0 : w1.cell? ⟨g, 0, none⟩ = some (.int .i64 a) := by have := hg2 0 (by simp); simpa using this
      have q1 : w1.cell? ⟨g, 1, none⟩ = some (.int .i64 b) := by have := hg2 1 (by simp); simpa using this
      have o0 : w1.cell? ⟨w.heap.size, 0, none⟩ = some (.int .i64 0) := by rw [kcb1_0]; go_simp
      have o1 : w1.cell? ⟨w.heap.size, 1, none⟩ = some (.int .i64 0) := by rw [kcb1_0]; go_simp
      have of : ∀ i, w1.frozen? ⟨w.heap.size, i, none⟩ = false := by intro i; rw [kfb1_0]; go_simp
      have hB1 : Below w.heap.size w w1 := (by repeat' (first | (with_reducible exact Below.refl _ _) | (with_reducible assumption) | (with_reducible refine below_drewN ?_ _) | (with_reducible refine Below.drew ?_) | (with_reducible refine Below.alloc ?_ ?_ _) | (with_reducible refine Below.setCell ?_ ?_ _) | (with_reducible refine Below.trans ?_ (Below.mono (by with_reducible assumption) ?_)) | go_size | (dsimp only; omega)))
      clear hg2 hv b1
      rw [show ([a, b] : List Int).length = 2 from rfl]
      have harr : ∀ W : World, (Instr.arrayAt 23 (.slice (some ⟨g, 0, none⟩) 2 cg)).run Tryd.prog W = .ok (.pointer (some ⟨g, 0, none⟩)) W := by
        intro W
        first | exact run_arrayAt W 23 2 2 _ _ _ Tryd.underlying23 (Nat.le_refl _) | exact run_arrayAt 23 2 2 _ _ _ Tryd.underlying23 (Nat.le_refl _)
      go_wp2_with fail
      refine (IsFraction_c _ _ _).mono ?_
      rintro e w2 ⟨rfl, b2⟩
      rw [HF.out]
      have zzb2 := b2.size; (try simp at zzb2); have zb2_0 : w.heap.size < w2.heap.size := (by omega); have kcb2_0 : ∀ o, w2.cell? ⟨w.heap.size, o, none⟩ = _ := fun o => b2.cell (p := ⟨w.heap.size, o, none⟩) (by go_size); have kfb2_0 : ∀ o, w2.frozen? ⟨w.heap.size, o, none⟩ = _ := fun o => b2.frozen (p := ⟨w.heap.size, o, none⟩) (by go_size); clear zzb2
      go_wp2
      exact bodyPost_ret (v := .tuple #[.agg #[.int .i64 0, .int .i64 0], .int .i64 6]) (by simp only [results, Tryd.results18]; go_simp) rfl ⟨rfl, (by repeat' (first | (with_reducible exact Below.refl _ _) | (with_reducible assumption) | (with_reducible refine below_drewN ?_ _) | (with_reducible refine Below.drew ?_) | (with_reducible refine Below.alloc ?_ ?_ _) | (with_reducible refine Below.setCell ?_ ?_ _) | (with_reducible refine Below.trans ?_ (Below.mono (by with_reducible assumption) ?_)) | go_size | (dsimp only; omega)))⟩
    · rw [if_pos rfl]
      have HF := Lib.hid hf
      clear hf
      go_enter Tryd.func18, Tryd.ntmps18
      go_wp2_with fail
      refine (HKN.out _).mono ?_
      rintro e w1 ⟨v, rfl, hv, b1⟩
      have hv2 := hv.out HFL.out
      rw [HFL.out]
      rw [HZ.out] at hv2
      rcases hv2 with ⟨h, _⟩ | ⟨g, cg, rfl, hg0, hg1, hg2, -⟩
      · cases h
      have zzb1 := b1.size; (try simp at zzb1); have zb1_0 : w.heap.size < w1.heap.size := (by omega); have kcb1_0 : ∀ o, w1.cell? ⟨w.heap.size, o, none⟩ = _ := fun o => b1.cell (p := ⟨w.heap.size, o, none⟩) (by go_size); have kfb1_0 : ∀ o, w1.frozen? ⟨w.heap.size, o, none⟩ = _ := fun o => b1.frozen (p := ⟨w.heap.size, o, none⟩) (by go_size); clear zzb1
      have q0 : w1.cell? ⟨g, 0, none⟩ = some (.int .i64 a) := by have := hg2 0 (by simp); simpa using this
      have q1 : w1.cell? ⟨g, 1, none⟩ = some (.int .i64 b) := by have := hg2 1 (by simp); simpa using this
      have o0 : w1.cell? ⟨w.heap.size, 0, none⟩ = some (.int .i64 0) := by rw [kcb1_0]; go_simp
      have o1 : w1.cell? ⟨w.heap.size, 1, none⟩ = some (.int .i64 0) := by rw [kcb1_0]; go_simp
      have of : ∀ i, w1.frozen? ⟨w.heap.size, i, none⟩ = false := by intro i; rw [kfb1_0]; go_simp
      have hB1 : Below w.heap.size w w1 := (by repeat' (first | (with_reducible exact Below.refl _ _) | (with_reducible assumption) | (with_reducible refine below_drewN ?_ _) | (with_reducible refine Below.drew ?_) | (with_reducible refine Below.alloc ?_ ?_ _) | (with_reducible refine Below.setCell ?_ ?_ _) | (with_reducible refine Below.trans ?_ (Below.mono (by with_reducible assumption) ?_)) | go_size | (dsimp only; omega)))
      clear hg2 hv b1
      rw [show ([a, b] : List Int).length = 2 from rfl]
      have harr : ∀ W : World, (Instr.arrayAt 23 (.slice (some ⟨g, 0, none⟩) 2 cg)).run Tryd.prog W = .ok (.pointer (some ⟨g, 0, none⟩)) W := by
        intro W
        first | exact run_arrayAt W 23 2 2 _ _ _ Tryd.underlying23 (Nat.le_refl _) | exact run_arrayAt 23 2 2 _ _ _ Tryd.underlying23 (Nat.le_refl _)
      go_wp2_with fail
      refine (IsFraction_c _ _ _).mono ?_
      rintro e w2 ⟨rfl, b2⟩
      rw [HF.out]
      have zzb2 := b2.size; (try simp at zzb2); have zb2_0 : w.heap.size < w2.heap.size := (by omega); have kcb2_0 : ∀ o, w2.cell? ⟨w.heap.size, o, none⟩ = _ := fun o => b2.cell (p := ⟨w.heap.size, o, none⟩) (by go_size); have kfb2_0 : ∀ o, w2.frozen? ⟨w.heap.size, o, none⟩ = _ := fun o => b2.frozen (p := ⟨w.heap.size, o, none⟩) (by go_size); clear zzb2
      have r0 : w2.cell? ⟨g, 0, none⟩ = some (.int .i64 a) := by rw [b2.cell (p := ⟨g, 0, none⟩) hg1]; exact q0
      have r1 : w2.cell? ⟨g, 1, none⟩ = some (.int .i64 b) := by rw [b2.cell (p := ⟨g, 1, none⟩) hg1]; exact q1
      go_wp2
      exact bodyPost_ret (v := .tuple #[.agg #[.int .i64 a, .int .i64 b], .int .i64 0]) (by simp only [results, Tryd.results18]; go_simp) rfl ⟨rfl, (by repeat' (first | (with_reducible exact Below.refl _ _) | (with_reducible assumption) | (with_reducible refine below_drewN ?_ _) | (with_reducible refine Below.drew ?_) | (with_reducible refine Below.alloc ?_ ?_ _) | (with_reducible refine Below.setCell ?_ ?_ _) | (with_reducible refine Below.trans ?_ (Below.mono (by with_reducible assumption) ?_)) | go_size | (dsimp only; omega)))⟩
theorem Mplain (l : List UInt8) (k : Nat) (hk : 4 ≤ l.length + 1 → 4 ≤ k + 1) :
    (flagP (Lib.splitK [44] 0 k l) 4 44 l = false → parseM l = .tuple #[.agg #[.int .i64 0, .int .i64 0, .int .i64 0, .int .i64 0], .int .i64 6]) ∧
    (∀ a b c d : Int, flagP (Lib.splitK [44] 0 k l) 4 44 l = true → valsP (Lib.splitK [44] 0 k l) = [a, b, c, d] → parseM l = if isM a b c d = true then .tuple #[.agg #[.int .i64 a, .int .i64 b, .int .i64 c, .int .i64 d], .int .i64 0] else .tuple #[.agg #[.int .i64 0, .int .i64 0, .int .i64 0, .int .i64 0], .int .i64 6]) := by
  have back : readM l = true → ∃ a b c d : Int, numsP (parts 44 l) = [a, b, c, d] ∧ isM a b c d = true ∧ flagP (Lib.splitK [44] 0 k l) 4 44 l = true ∧ valsP (Lib.splitK [44] 0 k l) = [a, b, c, d] := by
    intro h
    unfold readM at h
    rw [Bool.and_eq_true, Bool.and_eq_true] at h
    obtain ⟨⟨ho, hl⟩, hf⟩ := h
    have hl : (numsP (parts 44 l)).length = 4 := by simpa using hl
    obtain ⟨a, b, c, d, hz⟩ : ∃ a b c d : Int, numsP (parts 44 l) = [a, b, c, d] := by
      match hq : numsP (parts 44 l), hl with
      | [x0, x1, x2, x3], _ => exact ⟨x0, x1, x2, x3, rfl⟩
    have hf' : isM a b c d = true := by rw [hz] at hf; exact hf
    have hF := isM_iff.mp hf'
    have h8 := parts_count 44 l
    have h9 : (parts 44 l).length = 4 := by rw [← hl]; unfold numsP; rw [List.length_map]
    obtain ⟨h1, h2⟩ := of_parts (n := 4) (k := k) ho hz rfl (hk (by omega)) (by intro v hv; simp only [List.mem_cons, List.not_mem_nil, or_false] at hv; rcases hv with rfl | rfl | rfl | rfl <;> omega)
    exact ⟨a, b, c, d, hz, hf', h1, h2⟩
  constructor
  · intro hfl
    unfold parseM
    rw [if_neg]
    intro h
    obtain ⟨a, b, c, d, -, -, h1, -⟩ := back h
    rw [hfl] at h1; cases h1
  · intro a b c d hfl hv
    by_cases hf : isM a b c d = true
    · have hF := isM_iff.mp hf
      rw [if_pos hf]
      have hj : joinT [a, b, c, d] 44 = l := by
        unfold flagP at hfl
        rw [Bool.and_eq_true, hv] at hfl
        simpa using hfl.2
      obtain ⟨h1, h2⟩ := to_parts (y := 44) (by decide) (by simp) (by intro v hv; simp only [List.mem_cons, List.not_mem_nil, or_false] at hv; rcases hv with rfl | rfl | rfl | rfl <;> omega) hj
      unfold parseM
      have hr : readM l = true := by
        unfold readM
        rw [h1, h2]
        simpa using hf
      rw [if_pos hr, h2]
      rfl
    · rw [if_neg hf]
      unfold parseM
      rw [if_neg]
      intro h
      obtain ⟨a', b', c', d', -, h2, -, h4⟩ := back h
      rw [hv] at h4
      injection h4 with e1 h4
      subst e1
      injection h4 with e2 h4
      subst e2
      injection h4 with e3 h4
      subst e3
      injection h4 with e4 h4
      subst e4
      exact hf h2
set_option maxRecDepth 100000 in
set_option maxHeartbeats 4000000 in
theorem ParseMatrix_c (s : ByteArray) (w : World) (m : Int) (t1 t2 : TypeId) (p1 p2 : Value) (hs : s.size ≤ 1000000000) (VV : Hid (Vars w m t1 t2 p1 p2)) :
    Calls Tryd.prog 20 #[.string s] w fun e w' => e = .returned (parseM s.data.toList) ∧ Below w.heap.size w w' := by
  have hlen : s.data.toList.length = s.size := by simp
  obtain ⟨hno, hyes⟩ := Mplain s.data.toList (min (4 + 1) (s.size + 1) - 1) (by rw [hlen]; omega)
  have hql := splitK_short 44 (min (4 + 1) (s.size + 1) - 1) s.data.toList
  obtain ⟨qs, hqs⟩ : ∃ qs, Lib.splitK [44] 0 (min (4 + 1) (s.size + 1) - 1) s.data.toList = qs := ⟨_, rfl⟩
  rw [hqs] at hno hyes hql
  have hV1 : ∀ o, Vars (w.alloc o) m t1 t2 p1 p2 := fun o => VV.out.later (Below.alloc (Below.refl _ _) (Nat.le_refl _) _)
  have KN := fun (o : Obj) => numbersOf_c s 44 4 (w.alloc o) m t1 t2 p1 p2 hs (by omega) (by omega) (Lib.hid (hV1 o)) qs hqs.symm (fun q hq => by have := hql q hq; omega)
  have HKN := Lib.hid KN
  clear KN hV1 hql hqs
  cases hfl : flagP qs 4 44 s.data.toList
  · rw [hno hfl]
    rw [hfl] at HKN
    clear hno hyes hfl hlen
    go_enter Tryd.func20, Tryd.ntmps20
    go_wp2_with fail
    refine (HKN.out _).mono ?_
    rintro e w1 ⟨v, rfl, -, b1⟩
    have zzb1 := b1.size; (try simp at zzb1); have zb1_0 : w.heap.size < w1.heap.size := (by omega); have kcb1_0 : ∀ o, w1.cell? ⟨w.heap.size, o, none⟩ = _ := fun o => b1.cell (p := ⟨w.heap.size, o, none⟩) (by go_size); have kfb1_0 : ∀ o, w1.frozen? ⟨w.heap.size, o, none⟩ = _ := fun o => b1.frozen (p := ⟨w.heap.size, o, none⟩) (by go_size); clear zzb1
    go_wp2
    exact bodyPost_ret (v := .tuple #[.agg #[.int .i64 0, .int .i64 0, .int .i64 0, .int .i64 0], .int .i64 6]) (by simp only [results, Tryd.results20]; go_simp) rfl ⟨rfl, (by repeat' (first | (with_reducible exact Below.refl _ _) | (with_reducible assumption) | (with_reducible refine below_drewN ?_ _) | (with_reducible refine Below.drew ?_) | (with_reducible refine Below.alloc ?_ ?_ _) | (with_reducible refine Below.setCell ?_ ?_ _) | (with_reducible refine Below.trans ?_ (Below.mono (by with_reducible assumption) ?_)) | go_size | (dsimp only; omega)))⟩
  · obtain ⟨a, b, c, d, hz⟩ : ∃ a b c d : Int, valsP qs = [a, b, c, d] := by
      have hl : (valsP qs).length = 4 := by
        unfold flagP at hfl
        rw [Bool.and_eq_true, Bool.and_eq_true] at hfl
        simpa using hfl.1.2
      match hq : valsP qs, hl with
      | [x0, x1, x2, x3], _ => exact ⟨x0, x1, x2, x3, rfl⟩
    rw [hyes a b c d hfl hz]
    have HFL := Lib.hid hfl
    have HZ := Lib.hid hz
    clear hno hyes hlen hz hfl
    cases hf : isM a b c d
    · rw [if_neg (by simp)]
      have HF := Lib.hid hf
      clear hf
      go_enter Tryd.func20, Tryd.ntmps20
      go_wp2_with fail
      refine (HKN.out _).mono ?_
      rintro e w1 ⟨v, rfl, hv, b1⟩
      have hv2 := hv.out HFL.out
      rw [HFL.out]
      rw [HZ.out] at hv2
      rcases hv2 with ⟨h, _⟩ | ⟨g, cg, rfl, hg0, hg1, hg2, -⟩
      · cases h
      have zzb1 := b1.size; (try simp at zzb1); have zb1_0 : w.heap.size < w1.heap.size := (by omega); have kcb1_0 : ∀ o, w1.cell? ⟨w.heap.size, o, none⟩ = _ := fun o => b1.cell (p := ⟨w.heap.size, o, none⟩) (by go_size); have kfb1_0 : ∀ o, w1.frozen? ⟨w.heap.size, o, none⟩ = _ := fun o => b1.frozen (p := ⟨w.heap.size, o, none⟩) (by go_size); clear zzb1
      have q0 : w1.cell? ⟨g, 0, none⟩ = some (.int .i64 a) := by have := hg2 0 (by simp); simpa using this
      have q1 : w1.cell? ⟨g, 1, none⟩ = some (.int .i64 b) := by have := hg2 1 (by simp); simpa using this
      have q2 : w1.cell? ⟨g, 2, none⟩ = some (.int .i64 c) := by have := hg2 2 (by simp); simpa using this
      have q3 : w1.cell? ⟨g, 3, none⟩ = some (.int .i64 d) := by have := hg2 3 (by simp); simpa using this
      have o0 : w1.cell? ⟨w.heap.size, 0, none⟩ = some (.int .i64 0) := by rw [kcb1_0]; go_simp
      have o1 : w1.cell? ⟨w.heap.size, 1, none⟩ = some (.int .i64 0) := by rw [kcb1_0]; go_simp
      have o2 : w1.cell? ⟨w.heap.size, 2, none⟩ = some (.int .i64 0) := by rw [kcb1_0]; go_simp
      have o3 : w1.cell? ⟨w.heap.size, 3, none⟩ = some (.int .i64 0) := by rw [kcb1_0]; go_simp
      have of : ∀ i, w1.frozen? ⟨w.heap.size, i, none⟩ = false := by intro i; rw [kfb1_0]; go_simp
      have hB1 : Below w.heap.size w w1 := (by repeat' (first | (with_reducible exact Below.refl _ _) | (with_reducible assumption) | (with_reducible refine below_drewN ?_ _) | (with_reducible refine Below.drew ?_) | (with_reducible refine Below.alloc ?_ ?_ _) | (with_reducible refine Below.setCell ?_ ?_ _) | (with_reducible refine Below.trans ?_ (Below.mono (by with_reducible assumption) ?_)) | go_size | (dsimp only; omega)))
      clear hg2 hv b1
      rw [show ([a, b, c, d] : List Int).length = 4 from rfl]
      have harr : ∀ W : World, (Instr.arrayAt 31 (.slice (some ⟨g, 0, none⟩) 4 cg)).run Tryd.prog W = .ok (.pointer (some ⟨g, 0, none⟩)) W := by
        intro W
        first | exact run_arrayAt W 31 2 4 _ _ _ Tryd.underlying31 (Nat.le_refl _) | exact run_arrayAt 31 2 4 _ _ _ Tryd.underlying31 (Nat.le_refl _)
      go_wp2_with fail
      refine (IsMatrix_c _ _ _ _ _).mono ?_
      rintro e w2 ⟨rfl, b2⟩
      rw [HF.out]
      have zzb2 := b2.size; (try simp at zzb2); have zb2_0 : w.heap.size < w2.heap.size := (by omega); have kcb2_0 : ∀ o, w2.cell? ⟨w.heap.size, o, none⟩ = _ := fun o => b2.cell (p := ⟨w.heap.size, o, none⟩) (by go_size); have kfb2_0 : ∀ o, w2.frozen? ⟨w.heap.size, o, none⟩ = _ := fun o => b2.frozen (p := ⟨w.heap.size, o, none⟩) (by go_size); clear zzb2
      go_wp2
      exact bodyPost_ret (v := .tuple #[.agg #[.int .i64 0, .int .i64 0, .int .i64 0, .int .i64 0], .int .i64 6]) (by simp only [results, Tryd.results20]; go_simp) rfl ⟨rfl, (by repeat' (first | (with_reducible exact Below.refl _ _) | (with_reducible assumption) | (with_reducible refine below_drewN ?_ _) | (with_reducible refine Below.drew ?_) | (with_reducible refine Below.alloc ?_ ?_ _) | (with_reducible refine Below.setCell ?_ ?_ _) | (with_reducible refine Below.trans ?_ (Below.mono (by with_reducible assumption) ?_)) | go_size | (dsimp only; omega)))⟩
    · rw [if_pos rfl]
      have HF := Lib.hid hf
      clear hf
      go_enter Tryd.func20, Tryd.ntmps20
      go_wp2_with fail
      refine (HKN.out _).mono ?_
      rintro e w1 ⟨v, rfl, hv, b1⟩
      have hv2 := hv.out HFL.out
      rw [HFL.out]
      rw [HZ.out] at hv2
      rcases hv2 with ⟨h, _⟩ | ⟨g, cg, rfl, hg0, hg1, hg2, -⟩
      · cases h
      have zzb1 := b1.size; (try simp at zzb1); have zb1_0 : w.heap.size < w1.heap.size := (by omega); have kcb1_0 : ∀ o, w1.cell? ⟨w.heap.size, o, none⟩ = _ := fun o => b1.cell (p := ⟨w.heap.size, o, none⟩) (by go_size); have kfb1_0 : ∀ o, w1.frozen? ⟨w.heap.size, o, none⟩ = _ := fun o => b1.frozen (p := ⟨w.heap.size, o, none⟩) (by go_size); clear zzb1
      have q0 : w1.cell? ⟨g, 0, none⟩ = some (.int .i64 a) := by have := hg2 0 (by simp); simpa using this
      have q1 : w1.cell? ⟨g, 1, none⟩ = some (.int .i64 b) := by have := hg2 1 (by simp); simpa using this
      have q2 : w1.cell? ⟨g, 2, none⟩ = some (.int .i64 c) := by have := hg2 2 (by simp); simpa using this
      have q3 : w1.cell? ⟨g, 3, none⟩ = some (.int .i64 d) := by have := hg2 3 (by simp); simpa using this
      have o0 : w1.cell? ⟨w.heap.size, 0, none⟩ = some (.int .i64 0) := by rw [kcb1_0]; go_simp
      have o1 : w1.cell? ⟨w.heap.size, 1, none⟩ = some (.int .i64 0) := by rw [kcb1_0]; go_simp
      have o2 : w1.cell? ⟨w.heap.size, 2, none⟩ = some (.int .i64 0) := by rw [kcb1_0]; go_simp
      have o3 : w1.cell? ⟨w.heap.size, 3, none⟩ = some (.int .i64 0) := by rw [kcb1_0]; go_simp
      have of : ∀ i, w1.frozen? ⟨w.heap.size, i, none⟩ = false := by intro i; rw [kfb1_0]; go_simp
      have hB1 : Below w.heap.size w w1 := (by repeat' (first | (with_reducible exact Below.refl _ _) | (with_reducible assumption) | (with_reducible refine below_drewN ?_ _) | (with_reducible refine Below.drew ?_) | (with_reducible refine Below.alloc ?_ ?_ _) | (with_reducible refine Below.setCell ?_ ?_ _) | (with_reducible refine Below.trans ?_ (Below.mono (by with_reducible assumption) ?_)) | go_size | (dsimp only; omega)))
      clear hg2 hv b1
      rw [show ([a, b, c, d] : List Int).length = 4 from rfl]
      have harr : ∀ W : World, (Instr.arrayAt 31 (.slice (some ⟨g, 0, none⟩) 4 cg)).run Tryd.prog W = .ok (.pointer (some ⟨g, 0, none⟩)) W := by
        intro W
        first | exact run_arrayAt W 31 2 4 _ _ _ Tryd.underlying31 (Nat.le_refl _) | exact run_arrayAt 31 2 4 _ _ _ Tryd.underlying31 (Nat.le_refl _)
      go_wp2_with fail
      refine (IsMatrix_c _ _ _ _ _).mono ?_
      rintro e w2 ⟨rfl, b2⟩
      rw [HF.out]
      have zzb2 := b2.size; (try simp at zzb2); have zb2_0 : w.heap.size < w2.heap.size := (by omega); have kcb2_0 : ∀ o, w2.cell? ⟨w.heap.size, o, none⟩ = _ := fun o => b2.cell (p := ⟨w.heap.size, o, none⟩) (by go_size); have kfb2_0 : ∀ o, w2.frozen? ⟨w.heap.size, o, none⟩ = _ := fun o => b2.frozen (p := ⟨w.heap.size, o, none⟩) (by go_size); clear zzb2
      have r0 : w2.cell? ⟨g, 0, none⟩ = some (.int .i64 a) := by rw [b2.cell (p := ⟨g, 0, none⟩) hg1]; exact q0
      have r1 : w2.cell? ⟨g, 1, none⟩ = some (.int .i64 b) := by rw [b2.cell (p := ⟨g, 1, none⟩) hg1]; exact q1
      have r2 : w2.cell? ⟨g, 2, none⟩ = some (.int .i64 c) := by rw [b2.cell (p := ⟨g, 2, none⟩) hg1]; exact q2
      have r3 : w2.cell? ⟨g, 3, none⟩ = some (.int .i64 d) := by rw [b2.cell (p := ⟨g, 3, none⟩) hg1]; exact q3
      go_wp2
      exact bodyPost_ret (v := .tuple #[.agg #[.int .i64 a, .int .i64 b, .int .i64 c, .int .i64 d], .int .i64 0]) (by simp only [results, Tryd.results20]; go_simp) rfl ⟨rfl, (by repeat' (first | (with_reducible exact Below.refl _ _) | (with_reducible assumption) | (with_reducible refine below_drewN ?_ _) | (with_reducible refine Below.drew ?_) | (with_reducible refine Below.alloc ?_ ?_ _) | (with_reducible refine Below.setCell ?_ ?_ _) | (with_reducible refine Below.trans ?_ (Below.mono (by with_reducible assumption) ?_)) | go_size | (dsimp only; omega)))⟩
end Go.Proofs.YtagjgpbcpjcceaaDoor
