/- FractionOfContinued: the program's walks. -/
import Derived.Test.YtmopjfjmmdnapaaNA
import Derived.Test.YtmopjfjmmdnapaaAU
import Derived.IntWalk
namespace Go.Proofs.Ytmopjfjmmdnapaa
open Go.RowKit
set_option linter.unusedVariables false
set_option linter.unusedSimpArgs false
set_option maxHeartbeats 1000000 in
theorem toInt64S_full (v : Value) (ys : List Int) (w : World) (h : InI w v ys) (hl : ys.length ≤ 1048576) :
    Calls Try.prog 22 #[v] w fun e w' => ∃ v', e = .returned v' ∧ OwnI w.heap.size w' v' ys ∧ (∃ g, v' = .slice (some ⟨g, 0, none⟩) ys.length ys.length) ∧ Below w.heap.size w w' := by
  obtain ⟨i0, hi, hz0, hz1, hz2⟩ := info_parts info_i64
  obtain ⟨wm, hrun, hown, hgrow⟩ := run_make_full w w.heap.size 23 2 i0 (.int .i64 0) 1 under_i64s hi hz0 hz1 .i64 .i64 ys.length (by rw [hz2]; omega) (by unfold maxLen; omega) (Nat.le_refl _)
  have hown' : wm.ownsRow w.heap.size 2 1 (.slice (some ⟨w.heap.size, 0, none⟩) ys.length ys.length) (List.replicate ys.length (0 : Int)).length ((List.replicate ys.length (0 : Int)).map (Value.int .i64)) := by
    rw [List.length_replicate, List.map_replicate, ← toList_madeCells_one]
    simpa [Value.cells] using hown
  have hRW : RowI wm w.heap.size 0 (List.replicate ys.length 0) := own_rowI hown'
  have hfr := own_frz hown
  have hBm : Below w.heap.size w wm := Below.grown (Below.refl _ _) hgrow (Nat.le_refl _) (fun k hk => by simp at hk)
  have hsm : w.heap.size < wm.heap.size := (hown.lt w.heap.size rfl).2
  clear hown hown' hgrow
  rcases h with ⟨rfl, a, c, rfl⟩ | ⟨b, o, c, rfl, hb, hr⟩
  · simp at hrun
    go_enter Try.func22, Try.ntmps22
    go_wp2
    refine wp_loop_rounds 1 ?_
    rw [rounds_succ]
    go_wp2
    exact bodyPost_ret (v := .slice (some ⟨w.heap.size, 0, none⟩) 0 0) (by simp only [results, Try.results22]; go_simp) rfl ⟨_, rfl, .inl ⟨rfl, _, _, rfl⟩, ⟨_, rfl⟩, hBm⟩
  · have hcell : ∀ k, k < ys.length → wm.cell? ⟨w.heap.size, 0 + k, none⟩ = some (.int .i64 0) := by
      intro k hk
      have := hRW k (by simpa using hk)
      simpa [List.getD, hk] using this
    have HR := Lib.hid hr
    have HCELL := Lib.hid hcell
    have HFR := Lib.hid hfr
    clear hRW hcell hfr hr
    generalize hn : ys.length = n at *
    have HN := Lib.hid hn
    clear hn
    go_enter Try.func22, Try.ntmps22
    go_wp2
    go_loopw [4] (fun i wr => ∃ k : Nat, k ≤ n ∧ i = .int .i64 k ∧ Hid (∀ j, j < n → wr.cell? ⟨w.heap.size, 0 + j, none⟩ = some (.int .i64 (if j < k then ys.getD j 0 else 0))) ∧ Hid (∀ i, wr.frozen? ⟨w.heap.size, i, none⟩ = false) ∧ Below w.heap.size w wr ∧ w.heap.size < wr.heap.size) (fun i wr => n - (intOf i).toNat)
    case atStart => exact ⟨0, Nat.zero_le _, rfl, Lib.hid (fun j hj => by rw [if_neg (by omega)]; exact HCELL.out j hj), HFR, hBm, hsm⟩
    case round =>
      obtain ⟨k, hk, rfl, HC, HF, hB, hsz⟩ := hrel
      clear hrun
      by_cases hlt : k < n
      · have q1 : wr.cell? ⟨b, o + k, none⟩ = some (.int .i64 (ys.getD k 0)) := by
          rw [hB.cell (p := ⟨b, o + k, none⟩) hb]; exact HR.out k (by rw [HN.out]; exact hlt)
        have q2 := HC.out k hlt
        have q3 := HF.out k
        simp only [Nat.zero_add] at q2
        go_wp2
        go_roundw
        case rel => exact ⟨k + 1, by omega, by go_num, Lib.hid (fill_step hlt HC.out), Lib.hid (by intro i; have := HF.out i; go_simp), (by repeat' (first | (with_reducible exact Below.refl _ _) | (with_reducible assumption) | (with_reducible refine below_drewN ?_ _) | (with_reducible refine Below.drew ?_) | (with_reducible refine Below.alloc ?_ ?_ _) | (with_reducible refine Below.setCell ?_ ?_ _) | (with_reducible refine Below.trans ?_ (Below.mono (by with_reducible assumption) ?_)) | go_size | (dsimp only; omega))), by go_size⟩
        case measure => simp [intOf]; omega
      · obtain rfl : k = n := by omega
        go_wp2
        exact bodyPost_ret (v := .slice (some ⟨w.heap.size, 0, none⟩) k k) (by simp only [results, Try.results22]; go_simp) rfl ⟨_, rfl, .inr ⟨w.heap.size, k, by rw [HN.out], Nat.le_refl _, hsz, (by intro j hj; rw [HN.out] at hj; have := HC.out j hj; rw [if_pos hj] at this; exact this), HF.out⟩, ⟨_, rfl⟩, hB⟩
theorem min_c (g n c : Nat) (zs : List Int) (w : World) (hn0 : 1 ≤ n) (hn : n ≤ 1000) (HR : Hid (∀ k, k < n → w.cell? ⟨g, 0 + k, none⟩ = some (.int .i64 (if k = 0 then 1 else zs.getD k 0)))) :
    Calls Try.prog 87 #[.slice (some ⟨g, 0, none⟩) n c] w fun e w' => e = .returned (.int .i64 (least zs (n - 1))) ∧ w = w' := by
  have hnn : ¬ ((n : Int) < 1) := by omega
  have h0 : w.cell? ⟨g, 0, none⟩ = some (.int .i64 1) := by have := HR.out 0 (by omega); simpa using this
  go_enter Try.func87, Try.ntmps87
  go_wp2
  go_loopw [3, 4] (fun m i wr => ∃ (k : Nat), 1 ≤ k ∧ k ≤ n ∧ i = .int .i64 k ∧ m = .int .i64 (least zs (k - 1)) ∧ w = wr) (fun m i wr => n - (intOf i).toNat)
  case atStart => exact ⟨1, by omega, by omega, rfl, rfl, rfl⟩
  case round =>
    obtain ⟨k, hk1, hk, rfl, rfl, rfl⟩ := hrel
    by_cases hlt : k < n
    · have hkn : (k : Int) < (n : Int) := by omega
      have q : w.cell? ⟨g, k, none⟩ = some (.int .i64 (zs.getD k 0)) := by
        have := HR.out k hlt
        rw [if_neg (by omega)] at this
        simpa only [Nat.zero_add] using this
      have hle : least zs k = min (least zs (k - 1)) (zs.getD k 0) := by
        obtain ⟨j, rfl⟩ : ∃ j, k = j + 1 := ⟨k - 1, by omega⟩
        rfl
      generalize zs.getD k 0 = z at *
      generalize hm : least zs (k - 1) = m at *
      have HLE := Lib.hid hle
      clear hle hm
      go_wp2
      go_roundw
      case rel => exact ⟨k + 1, by omega, by omega, by go_num, by rw [show k + 1 - 1 = k by omega, HLE.out]; congr 1; split <;> omega, by first | trivial | rfl⟩
      case measure => simp [intOf]; omega
    · obtain rfl : k = n := by omega
      go_wp2
      go_returns
      exact ⟨rfl, rfl⟩
theorem own_lit (w : World) (x : Value) (t : TypeId) (base : Nat) (hb : base ≤ w.heap.size) : (w.alloc (.cells #[x] t)).ownsRow base t 1 (.slice (some ⟨w.heap.size, 0, none⟩) 1 1) 1 [x] :=
  ⟨by simp, .inr ⟨w.heap.size, 1, #[x], rfl, hb, heap_alloc_new w _, Nat.le_refl _, by unfold maxLen; omega, by simp, by simp⟩⟩
theorem tail_at (zs : List Int) (k : Nat) : (1 :: zs.tail).getD k 0 = if k = 0 then 1 else zs.getD k 0 := by
  cases k with
  | zero => rfl
  | succ k => cases zs <;> simp [List.getD]
set_option maxRecDepth 100000 in
set_option maxHeartbeats 4000000 in
theorem isContinued_big (b n : Nat) (zs : List Int) (w : World) (hb : b < w.heap.size) (HR : Hid (RowI w b 0 zs)) (HL : Hid (zs.length = n)) (h2 : 2 ≤ n) (h60 : n ≤ 60) (HE : Hid (ents zs = true)) (hlast : 2 ≤ zs.getD (n - 1) 0) :
    Calls Try.prog 54 #[.slice (some ⟨b, 0, none⟩) n n] w fun e w' => e = .returned (.bool (decide (1 ≤ least zs (n - 1)))) ∧ Below w.heap.size w w' := by
  obtain ⟨i0, hi, hz0, hz1, hz2⟩ := info_parts info_i64
  have e1 : ¬ ((n : Int) < 1) := by omega
  have e2 : ¬ (60 < (n : Int)) := by omega
  have e3 : 1 < (n : Int) := by omega
  have hq : w.cell? ⟨b, (n - 1), none⟩ = some (.int .i64 (zs.getD (n - 1) 0)) := by have := HR.out (n - 1) (by rw [HL.out]; omega); simpa only [Nat.zero_add] using this
  have hn1 : ¬ n = 1 := by omega
  have htl : (zs.tail.map (Value.int .i64)).length = (n - 1) * 1 := by simp [HL.out]
  have hown0 := own_lit w (.int .i64 1) 2 w.heap.size (Nat.le_refl _)
  have hnews : ∀ j u, (zs.tail.map (Value.int .i64))[j]? = some u → (w.alloc (.cells #[.int .i64 1] 2)).cell? ((⟨b, 1, none⟩ : Addr).add j) = some u := by
    intro j u hj
    have hj2 : j < zs.length - 1 := by
      have := (List.getElem?_eq_some_iff.mp hj).1
      simpa using this
    have h1 := HR.out (j + 1) (by omega)
    have hu : u = .int .i64 (zs.getD (j + 1) 0) := by
      have : (zs.tail.map (Value.int .i64))[j]? = some (.int .i64 (zs.getD (j + 1) 0)) := by
        cases zs with
        | nil => simp at hj2
        | cons z t => simp at hj2 ⊢; simp [List.getD, hj2]
      rw [hj] at this; injection this
    subst hu
    have ad : (⟨b, 1, none⟩ : Addr).add j = ⟨b, 0 + (j + 1), none⟩ := by
      by_cases h0 : j = 0
      · subst h0; simp [Addr.add]
      · simp [Addr.add, h0]; omega
    rw [ad, World.cell?_alloc_lt _ _ _ hb]
    exact h1
  have HNW := Lib.hid hnews
  have HTL := Lib.hid htl
  generalize hzz : zs.getD (n - 1) 0 = z at *
  clear hzz hnews htl
  have e4 : ¬ (z < 2) := by omega
  go_enter Try.func54, Try.ntmps54
  go_wp2_with fail
  refine (areEntries_c b 0 n n zs _ HL.out (by omega) (fun k hk => HR.out k (by rw [HL.out]; exact hk))).mono ?_
  rintro e w' ⟨rfl, rfl⟩
  rw [HE.out]
  go_wp2_with (at_builtin; refine wpList_append_own _ rfl _ _ 23 rfl w.heap.size 2 i0 (.int .i64 0) 1 8 under_i64s hi hz0 hz1 hz2 rfl (by decide) _ 1 [.int .i64 1] rfl hown0 ⟨b, 1, none⟩ (n - 1) (n - 1) (zs.tail.map (Value.int .i64)) rfl HTL.out HNW.out (fun x hx => by obtain ⟨y, _, rfl⟩ := List.mem_map.mp hx; rfl) (by unfold maxLen; omega) (by omega) (by simp) ?_; intro v' w3 hown3 hgrow3 hnil3)
  have hln : (1 :: zs.tail).length = n := by simp [HL.out]; omega
  have hform : OwnI w.heap.size w3 v' (1 :: zs.tail) := OwnI.of_row (by rw [hln]; have := hown3; rw [show 1 + (n - 1) = n by omega] at this; simpa using this)
  have hB3 : Below w.heap.size w w3 := Below.grown (Below.alloc (Below.refl _ _) (Nat.le_refl _) _) hgrow3 (by simp) (fun k hk => (hown0.lt k hk).1)
  clear hown3 hgrow3 hnil3
  rcases hform with ⟨h, _⟩ | ⟨g, cg, hv, hg0, hg1, hg2, _⟩
  · cases h
  rw [hln] at hv
  subst hv
  have HG := Lib.hid hg2
  clear hg2
  go_wp2_with fail
  refine (min_c g n cg zs _ (by omega) (by omega) (Lib.hid (fun k hk => by rw [← tail_at]; exact HG.out k (by rw [hln]; exact hk)))).mono ?_
  rintro e w' ⟨rfl, rfl⟩
  go_wp2
  go_returns
  exact ⟨rfl, hB3⟩
theorem isContinued_one (b : Nat) (z : Int) (w : World) (hb : b < w.heap.size) (HR : Hid (RowI w b 0 [z])) (HE : Hid (ents [z] = true)) :
    Calls Try.prog 54 #[.slice (some ⟨b, 0, none⟩) 1 1] w fun e w' => e = .returned (.bool true) ∧ Below w.heap.size w w' := by
  obtain ⟨i0, hi, hz0, hz1, hz2⟩ := info_parts info_i64
  have hq : w.cell? ⟨b, 0, none⟩ = some (.int .i64 z) := HR.out 0 (by simp)
  have hown0 := own_lit w (.int .i64 1) 2 w.heap.size (Nat.le_refl _)
  go_enter Try.func54, Try.ntmps54
  go_wp2_with fail
  refine (areEntries_c b 0 1 1 [z] _ rfl (by omega) (fun k hk => HR.out k hk)).mono ?_
  rintro e w' ⟨rfl, rfl⟩
  rw [HE.out]
  go_wp2_with (at_builtin; refine wpList_append_own _ rfl _ _ 23 rfl w.heap.size 2 i0 (.int .i64 0) 1 8 under_i64s hi hz0 hz1 hz2 rfl (by decide) _ 1 [.int .i64 1] rfl hown0 ⟨b, 0, none⟩ 0 0 [] rfl rfl (fun j u hj => by simp at hj) (fun x hx => by simp at hx) (by unfold maxLen; omega) (by omega) (by simp) ?_; intro v' w3 hown3 hgrow3 hnil3)
  have hform : OwnI w.heap.size w3 v' [1] := OwnI.of_row (by simpa using hown3)
  have hB3 : Below w.heap.size w w3 := Below.grown (Below.alloc (Below.refl _ _) (Nat.le_refl _) _) hgrow3 (by simp) (fun k hk => (hown0.lt k hk).1)
  clear hown3 hgrow3 hnil3
  rcases hform with ⟨h, _⟩ | ⟨g, cg, hv, hg0, hg1, hg2, _⟩
  · cases h
  rw [show ([1] : List Int).length = 1 from rfl] at hv
  subst hv
  have HG := Lib.hid hg2
  clear hg2
  go_wp2_with fail
  have HM : Hid (∀ k, k < 1 → w3.cell? ⟨g, 0 + k, none⟩ = some (.int .i64 (if k = 0 then 1 else ([1] : List Int).getD k 0))) := by
    apply Lib.hid
    intro k hk
    obtain rfl : k = 0 := by omega
    exact HG.out 0 (by simp)
  refine (min_c g 1 cg [1] _ (by omega) (by omega) HM).mono ?_
  rintro e w' ⟨rfl, rfl⟩
  go_wp2
  go_returns
  exact ⟨rfl, hB3⟩
theorem isContinued_c (b n : Nat) (zs : List Int) (w : World) (hb : b < w.heap.size) (HR : Hid (RowI w b 0 zs)) (HL : Hid (zs.length = n)) (h1 : 1 ≤ n) (hm : n ≤ 1000000000) :
    Calls Try.prog 54 #[.slice (some ⟨b, 0, none⟩) n n] w fun e w' => ∃ r : Bool, e = .returned (.bool r) ∧ Hid (r = true ↔ OkC zs) ∧ Below w.heap.size w w' := by
  by_cases h60 : n ≤ 60
  case neg =>
    have e1 : ¬ ((n : Int) < 1) := by omega
    have e2 : 60 < (n : Int) := by omega
    go_enter Try.func54, Try.ntmps54
    go_wp2
    go_returns
    exact .inl ⟨rfl, Lib.hid (fun h => by have := h.2.1; rw [HL.out] at this; omega), Below.refl _ _⟩
  case pos =>
    cases he : ents zs
    · have e1 : ¬ ((n : Int) < 1) := by omega
      have e2 : ¬ (60 < (n : Int)) := by omega
      have HE := Lib.hid he
      clear he
      go_enter Try.func54, Try.ntmps54
      go_wp2_with fail
      refine (areEntries_c b 0 n n zs _ HL.out (by omega) (fun k hk => HR.out k (by rw [HL.out]; exact hk))).mono ?_
      rintro e w' ⟨rfl, rfl⟩
      rw [HE.out]
      go_wp2
      go_returns
      exact ⟨false, rfl, Lib.hid ⟨fun h => by simp at h, fun h => by have := (OkC_to h).1; have h2 := HE.out; unfold ents at h2; rw [this] at h2; simp at h2⟩, Below.refl _ _⟩
    · by_cases hn1 : n = 1
      · obtain ⟨z, rfl⟩ : ∃ z, zs = [z] := List.length_eq_one_iff.mp (by rw [HL.out, hn1])
        subst hn1
        refine (isContinued_one b z w hb HR (Lib.hid he)).mono ?_
        rintro e w' ⟨rfl, hB⟩
        exact ⟨true, rfl, Lib.hid ⟨fun _ => OkC_of (by simp) (by simp) he (by simp) (by simp [least]), fun _ => rfl⟩, hB⟩
      · by_cases hl : 2 ≤ zs.getD (n - 1) 0
        · refine (isContinued_big b n zs w hb HR HL (by omega) h60 (Lib.hid he) hl).mono ?_
          rintro e w' ⟨rfl, hB⟩
          have hlen := HL.out
          subst hlen
          exact ⟨_, rfl, Lib.hid ⟨fun h => OkC_of h1 h60 he (fun _ => hl) (by simpa using h), fun h => by simpa using (OkC_to h).2.2⟩, hB⟩
        · have e1 : ¬ ((n : Int) < 1) := by omega
          have e2 : ¬ (60 < (n : Int)) := by omega
          have e3 : 1 < (n : Int) := by omega
          have hq : w.cell? ⟨b, (n - 1), none⟩ = some (.int .i64 (zs.getD (n - 1) 0)) := by have := HR.out (n - 1) (by rw [HL.out]; omega); simpa only [Nat.zero_add] using this
          have hno : ¬ OkC zs := fun h => hl (by have := (OkC_to h).2.1 (by rw [HL.out]; omega); rw [HL.out] at this; exact this)
          generalize zs.getD (n - 1) 0 = z at *
          have e4 : z < 2 := by omega
          have HE := Lib.hid he
          have HNO := Lib.hid hno
          clear he hno
          go_enter Try.func54, Try.ntmps54
          go_wp2_with fail
          refine (areEntries_c b 0 n n zs _ HL.out (by omega) (fun k hk => HR.out k (by rw [HL.out]; exact hk))).mono ?_
          rintro e w' ⟨rfl, rfl⟩
          rw [HE.out]
          go_wp2
          go_returns
          exact ⟨false, rfl, Lib.hid ⟨fun h => by simp at h, fun h => absurd h HNO.out⟩, Below.refl _ _⟩
theorem FractionOfContinued_row (b n : Nat) (zs : List Int) (w : World) (hb : b < w.heap.size) (HR : Hid (RowI w b 0 zs)) (HL : Hid (zs.length = n)) (h1 : 1 ≤ n) (hm : n ≤ 1000000000) :
    Calls Try.prog 23 #[.slice (some ⟨b, 0, none⟩) n n] w fun e w' => e = .returned (contV zs) ∧ Below w.heap.size w w' := by
  by_cases hok : OkC zs
  case neg =>
    rw [contV_no hok]
    have HO := Lib.hid hok
    clear hok
    go_enter Try.func23, Try.ntmps23
    go_wp2_with fail
    refine (isContinued_c b n zs _ (by go_size) (Lib.hid (fun k hk => by rw [World.cell?_alloc_lt _ _ _ hb]; exact HR.out k hk)) HL h1 hm).mono ?_
    rintro e w1 ⟨r, rfl, hr, b1⟩
    have zzb1 := b1.size; (try simp at zzb1); have zb1_0 : w.heap.size < w1.heap.size := (by omega); have kcb1_0 : ∀ o, w1.cell? ⟨w.heap.size, o, none⟩ = _ := fun o => b1.cell (p := ⟨w.heap.size, o, none⟩) (by go_size); have kfb1_0 : ∀ o, w1.frozen? ⟨w.heap.size, o, none⟩ = _ := fun o => b1.frozen (p := ⟨w.heap.size, o, none⟩) (by go_size); clear zzb1
    obtain rfl : r = false := by
      cases r
      · rfl
      · exact absurd (hr.out.mp rfl) HO.out
    go_wp2
    exact bodyPost_ret (v := .tuple #[.agg #[.int .i64 0, .int .i64 0], .int .i64 2]) (by simp only [results, Try.results23]; go_simp) rfl ⟨rfl, (by repeat' (first | (with_reducible exact Below.refl _ _) | (with_reducible assumption) | (with_reducible refine below_drewN ?_ _) | (with_reducible refine Below.drew ?_) | (with_reducible refine Below.alloc ?_ ?_ _) | (with_reducible refine Below.setCell ?_ ?_ _) | (with_reducible refine Below.trans ?_ (Below.mono (by with_reducible assumption) ?_)) | go_size | (dsimp only; omega)))⟩
  case pos =>
    have HEN : Hid (∀ k, k < n → ent (zs.getD k 0) = true) := Lib.hid (fun k hk => OkC_ent hok k (by rw [HL.out]; exact hk))
    have h60 := hok.2.1
    rw [HL.out] at h60
    cases hL : convs 1 0 0 1 zs with
    | none =>
      rw [contV_lim hok hL]
      have HO := Lib.hid hok
      have HC := Lib.hid hL
      clear hok hL
      go_enter Try.func23, Try.ntmps23
      go_wp2_with fail
      refine (isContinued_c b n zs _ (by go_size) (Lib.hid (fun k hk => by rw [World.cell?_alloc_lt _ _ _ hb]; exact HR.out k hk)) HL h1 hm).mono ?_
      rintro e w1 ⟨r, rfl, hr, b1⟩
      have zzb1 := b1.size; (try simp at zzb1); have zb1_0 : w.heap.size < w1.heap.size := (by omega); have kcb1_0 : ∀ o, w1.cell? ⟨w.heap.size, o, none⟩ = _ := fun o => b1.cell (p := ⟨w.heap.size, o, none⟩) (by go_size); have kfb1_0 : ∀ o, w1.frozen? ⟨w.heap.size, o, none⟩ = _ := fun o => b1.frozen (p := ⟨w.heap.size, o, none⟩) (by go_size); clear zzb1
      obtain rfl : r = true := hr.out.mpr HO.out
      have hB1 : Below w.heap.size w w1 := (by repeat' (first | (with_reducible exact Below.refl _ _) | (with_reducible assumption) | (with_reducible refine below_drewN ?_ _) | (with_reducible refine Below.drew ?_) | (with_reducible refine Below.alloc ?_ ?_ _) | (with_reducible refine Below.setCell ?_ ?_ _) | (with_reducible refine Below.trans ?_ (Below.mono (by with_reducible assumption) ?_)) | go_size | (dsimp only; omega)))
      go_wp2_with fail
      refine (convergents_no b 0 n n zs _ (by omega) (Lib.hid (fun k hk => by rw [hB1.cell (p := ⟨b, 0 + k, none⟩) hb]; exact HR.out k (by rw [HL.out]; exact hk))) HL (by omega) HEN HC).mono ?_
      rintro e w2 ⟨v, rfl, b2⟩
      have zzb2 := b2.size; (try simp at zzb2); have zb2_0 : w.heap.size < w2.heap.size := (by omega); have kcb2_0 : ∀ o, w2.cell? ⟨w.heap.size, o, none⟩ = _ := fun o => b2.cell (p := ⟨w.heap.size, o, none⟩) (by go_size); have kfb2_0 : ∀ o, w2.frozen? ⟨w.heap.size, o, none⟩ = _ := fun o => b2.frozen (p := ⟨w.heap.size, o, none⟩) (by go_size); clear zzb2
      go_wp2
      exact bodyPost_ret (v := .tuple #[.agg #[.int .i64 0, .int .i64 0], .int .i64 3]) (by simp only [results, Try.results23]; go_simp) rfl ⟨rfl, (by repeat' (first | (with_reducible exact Below.refl _ _) | (with_reducible assumption) | (with_reducible refine below_drewN ?_ _) | (with_reducible refine Below.drew ?_) | (with_reducible refine Below.alloc ?_ ?_ _) | (with_reducible refine Below.setCell ?_ ?_ _) | (with_reducible refine Below.trans ?_ (Below.mono (by with_reducible assumption) ?_)) | go_size | (dsimp only; omega)))⟩
    | some L =>
      rw [contV_yes hok hL]
      have hll := convs_len hL
      rw [HL.out] at hll
      have HO := Lib.hid hok
      have HC := Lib.hid hL
      have HLL := Lib.hid hll
      clear hok hL
      have hzl : zs.length - 1 = n - 1 := by rw [HL.out]
      rw [hzl]
      clear hzl
      obtain ⟨y0, hy0⟩ : ∃ y, L.getD ((n - 1) * 2) 0 = y := ⟨_, rfl⟩
      obtain ⟨y1, hy1⟩ : ∃ y, L.getD ((n - 1) * 2 + 1) 0 = y := ⟨_, rfl⟩
      rw [hy0, hy1]
      have HY0 := Lib.hid hy0
      have HY1 := Lib.hid hy1
      clear hy0 hy1
      go_enter Try.func23, Try.ntmps23
      go_wp2_with fail
      refine (isContinued_c b n zs _ (by go_size) (Lib.hid (fun k hk => by rw [World.cell?_alloc_lt _ _ _ hb]; exact HR.out k hk)) HL h1 hm).mono ?_
      rintro e w1 ⟨r, rfl, hr, b1⟩
      have zzb1 := b1.size; (try simp at zzb1); have zb1_0 : w.heap.size < w1.heap.size := (by omega); have kcb1_0 : ∀ o, w1.cell? ⟨w.heap.size, o, none⟩ = _ := fun o => b1.cell (p := ⟨w.heap.size, o, none⟩) (by go_size); have kfb1_0 : ∀ o, w1.frozen? ⟨w.heap.size, o, none⟩ = _ := fun o => b1.frozen (p := ⟨w.heap.size, o, none⟩) (by go_size); clear zzb1
      obtain rfl : r = true := hr.out.mpr HO.out
      have hB1 : Below w.heap.size w w1 := (by repeat' (first | (with_reducible exact Below.refl _ _) | (with_reducible assumption) | (with_reducible refine below_drewN ?_ _) | (with_reducible refine Below.drew ?_) | (with_reducible refine Below.alloc ?_ ?_ _) | (with_reducible refine Below.setCell ?_ ?_ _) | (with_reducible refine Below.trans ?_ (Below.mono (by with_reducible assumption) ?_)) | go_size | (dsimp only; omega)))
      go_wp2_with fail
      refine (convergents_yes b 0 n n zs L _ (by omega) (Lib.hid (fun k hk => by rw [hB1.cell (p := ⟨b, 0 + k, none⟩) hb]; exact HR.out k (by rw [HL.out]; exact hk))) HL (by omega) HEN HC HLL).mono ?_
      rintro e w2 ⟨v, rfl, ho, b2⟩
      have zzb2 := b2.size; (try simp at zzb2); have zb2_0 : w.heap.size < w2.heap.size := (by omega); have kcb2_0 : ∀ o, w2.cell? ⟨w.heap.size, o, none⟩ = _ := fun o => b2.cell (p := ⟨w.heap.size, o, none⟩) (by go_size); have kfb2_0 : ∀ o, w2.frozen? ⟨w.heap.size, o, none⟩ = _ := fun o => b2.frozen (p := ⟨w.heap.size, o, none⟩) (by go_size); clear zzb2
      rcases ho with ⟨h, _⟩ | ⟨g, n2, cg, rfl, hl2, hg0, hg1, hg2, _⟩
      · rw [h] at hll; simp at hll; omega
      obtain rfl : n2 = n := by omega
      have q0 : w2.cell? ⟨g, (n2 - 1) * 2, none⟩ = some (.int .i64 y0) := by rw [← HY0.out]; have := hg2 ((n2 - 1) * 2) (by omega); simpa only [Nat.zero_add] using this
      have q1 : w2.cell? ⟨g, (n2 - 1) * 2 + 1, none⟩ = some (.int .i64 y1) := by rw [← HY1.out]; have := hg2 ((n2 - 1) * 2 + 1) (by omega); simpa only [Nat.zero_add] using this
      clear hg2
      go_wp2
      exact bodyPost_ret (v := .tuple #[.agg #[.int .i64 y0, .int .i64 y1], .int .i64 0]) (by simp only [results, Try.results23]; go_simp) rfl ⟨rfl, (by repeat' (first | (with_reducible exact Below.refl _ _) | (with_reducible assumption) | (with_reducible refine below_drewN ?_ _) | (with_reducible refine Below.drew ?_) | (with_reducible refine Below.alloc ?_ ?_ _) | (with_reducible refine Below.setCell ?_ ?_ _) | (with_reducible refine Below.trans ?_ (Below.mono (by with_reducible assumption) ?_)) | go_size | (dsimp only; omega)))⟩
end Go.Proofs.Ytmopjfjmmdnapaa
