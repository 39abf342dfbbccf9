/- TierOf: both functions; the law. -/
import Derived.Test.YtandannjdhnlmaaYB
import Derived.Maps.AppendAt
namespace Go.Proofs.Ytandannjdhnlmaa
open Go.RowKit
set_option linter.unusedVariables false
set_option linter.unusedSimpArgs false
theorem under_strs : Try.prog.underlying 32 = some (.slice 9) := by kernel_rfl
theorem info_str : (Try.prog.info? 9).map (fun i => (i.zero, i.size, i.bytes)) = some (some (.string ⟨#[]⟩), 1, 16) := by kernel_rfl
def strV (p : List UInt8) : Value := .string ⟨p.toArray⟩
theorem str_add (q : List UInt8) (x : UInt8) : ((⟨q.toArray⟩ : ByteArray) ++ (⟨#[x]⟩ : ByteArray)) = ⟨(q ++ [x]).toArray⟩ := by
  apply ByteArray.ext
  simp [ByteArray.data_append]
theorem row_at {w : World} {base g n m cap size : Nat} {e : TypeId} {xs : List Value} (h : w.ownsRow base e size (.slice (some ⟨g, 0, none⟩) n cap) m xs) (j : Nat) (u : Value) (hj : xs[j]? = some u) : w.cell? ⟨g, j, none⟩ = some u := by
  have := World.ownsRow.cells h (g := g) rfl j u hj
  by_cases hj0 : j = 0
  · subst hj0; simpa [Addr.add] using this
  · simpa [Addr.add, hj0] using this
theorem sTierOf_no (n : Int) (w : World) (h : (decide (0 ≤ n) && decide (n ≤ 7)) = false) :
    Calls Try.prog 4 #[.int .i64 n] w fun e w' => ∃ v, e = .returned (.tuple #[v, .int .i64 2]) ∧ OwnF 2 w.heap.size w' v [] ∧ Below w.heap.size w w' := by
  have H := Lib.hid h
  clear h
  go_enter Try.func4, Try.ntmps4
  go_wp2_with fail
  refine (l01In_c _ _ _ _).mono ?_
  rintro e w2 ⟨rfl, rfl⟩
  rw [H.out]
  go_wp2
  go_returns
  exact ⟨_, rfl, OwnF.nil, Below.refl _ _⟩
theorem sTierOf_yes (n : Nat) (w : World) (hn : n ≤ 7) :
    Calls Try.prog 4 #[.int .i64 n] w fun e w' => ∃ v, e = .returned (.tuple #[v, .int .i64 0]) ∧ OwnF 2 w.heap.size w' v (flatQ (T n)) ∧ Below w.heap.size w w' := by
  have hr : (decide ((0 : Int) ≤ (n : Int)) && decide ((n : Int) ≤ 7)) = true := by simp; omega
  have HIN := Lib.hid hr
  have KT := Lib.hid (fun w => l03Tier_c n 0 0 1 1 0 w hn (by omega) Par.start)
  clear hr
  go_enter Try.func4, Try.ntmps4
  go_wp2_with fail
  refine (l01In_c _ _ _ _).mono ?_
  rintro e w2 ⟨rfl, rfl⟩
  rw [HIN.out]
  go_wp2_with fail
  refine (KT.out _).mono ?_
  rintro e w1 ⟨g, cap, rfl, hown, b1⟩
  go_wp2
  go_returns
  exact ⟨_, rfl, OwnF.of_row (by omega) (own_base hown (by simp)), (by repeat' (first | (with_reducible exact Below.refl _ _) | (with_reducible assumption) | (with_reducible refine below_drewN ?_ _) | (with_reducible refine Below.drew ?_) | (with_reducible refine Below.alloc ?_ ?_ _) | (with_reducible refine Below.setCell ?_ ?_ _) | (with_reducible refine Below.trans ?_ (Below.mono (by with_reducible assumption) ?_)) | go_size | (dsimp only; omega)))⟩
theorem TierOf_no (n : Int) (w : World) (h : (decide (0 ≤ n) && decide (n ≤ 7)) = false) :
    Calls Try.prog 5 #[.int .i64 n] w fun e w' => ∃ v, e = .returned (.tuple #[v, .int .i64 2]) ∧ OwnF 2 w.heap.size w' v [] ∧ Below w.heap.size w w' := by
  have H := Lib.hid h
  clear h
  go_enter Try.func5, Try.ntmps5
  go_wp2_with fail
  refine (within_c _ _ _ _).mono ?_
  rintro e w2 ⟨rfl, rfl⟩
  rw [H.out]
  go_wp2
  go_returns
  exact ⟨_, rfl, OwnF.nil, Below.refl _ _⟩
set_option maxRecDepth 100000 in
set_option maxHeartbeats 8000000 in
theorem TierOf_yes (n : Nat) (w : World) (hn : n ≤ 7) :
    Calls Try.prog 5 #[.int .i64 n] w fun e w' => ∃ v, e = .returned (.tuple #[v, .int .i64 0]) ∧ OwnF 2 w.heap.size w' v (flatQ (T n)) ∧ Below w.heap.size w w' := by
  obtain ⟨i0, hi, hz0, hz1, hz2⟩ := info_parts info_str
  obtain ⟨i1, hi1, hy0, hy1, hy2⟩ := info_parts info_Q
  have hr : (decide ((0 : Int) ≤ (n : Int)) && decide ((n : Int) ≤ 7)) = true := by simp; omega
  have HIN := Lib.hid hr
  clear hr
  go_enter Try.func5, Try.ntmps5
  go_wp2_with fail
  refine (within_c _ _ _ _).mono ?_
  rintro e w2 ⟨rfl, rfl⟩
  rw [HIN.out]
  go_wp2
  generalize hw0 : World.alloc _ _ = w0
  have hB0 : Below w.heap.size w w0 := by subst hw0; exact (by repeat' (first | (with_reducible exact Below.refl _ _) | (with_reducible assumption) | (with_reducible refine below_drewN ?_ _) | (with_reducible refine Below.drew ?_) | (with_reducible refine Below.alloc ?_ ?_ _) | (with_reducible refine Below.setCell ?_ ?_ _) | (with_reducible refine Below.trans ?_ (Below.mono (by with_reducible assumption) ?_)) | go_size | (dsimp only; omega)))
  have hs0 : w.heap.size < w0.heap.size := by subst hw0; go_size
  have HC0 : Hid (∀ (j : Nat) q, (paths 0)[j]? = some q → w0.cell? ⟨w.heap.size, j, none⟩ = some (strV q)) := by
    apply Lib.hid
    intro j q hj
    match j, hj with
    | 0, hj =>
      obtain rfl : q = [] := by simpa [paths] using hj.symm
      subst hw0
      show _ = some (Value.string ⟨#[]⟩)
      go_simp
    | j + 1, hj => simp [paths] at hj
  clear hw0
  go_loopw [4, 16] (fun pv i wr => ∃ (k g cap : Nat), i = .int .i64 k ∧ k ≤ n ∧ pv = .slice (some ⟨g, 0, none⟩) (2 ^ k) cap ∧ w.heap.size ≤ g ∧ g < wr.heap.size ∧ Hid (∀ (j : Nat) q, (paths k)[j]? = some q → wr.cell? ⟨g, j, none⟩ = some (strV q)) ∧ Below w.heap.size w wr) (fun pv i wr => n - (intOf i).toNat)
  case atStart => exact ⟨0, w.heap.size, 1, rfl, by omega, rfl, by omega, by omega, HC0, hB0⟩
  case round =>
    clear hB0 hs0 HC0
    obtain ⟨k, g, cap, rfl, hk, rfl, hg0, hgs, HC, hB⟩ := hrel
    have HPL := Lib.hid (paths_len k)
    have HPW := Lib.hid (paths_word k)
    have hN := pow2_le (show k ≤ 7 by omega)
    by_cases hlt : k < n
    · have hkn : (k : Int) < (n : Int) := by omega
      obtain ⟨ps, hps⟩ : ∃ ps, paths k = ps := ⟨_, rfl⟩
      have hpn : paths (k + 1) = nextPaths ps := by rw [← hps]; rfl
      have hpe : 2 ^ (k + 1) = 2 ^ k * 2 := by rw [Nat.pow_succ]
      have HPN := Lib.hid hpn
      have HPE := Lib.hid hpe
      rw [hps] at HC HPL HPW
      obtain ⟨N, hNN⟩ : ∃ N, 2 ^ k = N := ⟨_, rfl⟩
      have hN0 : 0 < N := by rw [← hNN]; exact Nat.two_pow_pos k
      rw [hNN] at HPL HPE hN
      rw [hNN]
      clear hpn hpe hps hNN
      have hown0 := own_new wr wr.heap.size 9 1 (Nat.le_refl _)
      have hown1 := own_base hown0 (show w.heap.size ≤ wr.heap.size from hB.size)
      clear hown0
      go_wp2
      have hob1 : (Value.slice (some ⟨wr.heap.size, 0, none⟩) 0 0).ownBlock ≠ some g := by
        intro e
        have := Option.some.inj e
        simp at this
        omega
      have HC1 : Hid (∀ (j : Nat) q, ps[j]? = some q → (wr.alloc (Obj.cells #[] 9)).cell? ⟨g, j, none⟩ = some (strV q)) := Lib.hid (fun j q hj => by rw [World.cell?_alloc_lt _ _ _ (by dsimp only; omega)]; exact HC.out j q hj)
      have hB1 : Below w.heap.size w (wr.alloc (Obj.cells #[] 9)) := Below.alloc hB hB.size _
      have hg1 : g < (wr.alloc (Obj.cells #[] 9)).heap.size := by simp; omega
      go_loopw [5, 21] (fun v i wq => ∃ (j : Nat), i = .int .i64 j ∧ j ≤ N ∧ v.ownBlock ≠ some g ∧ wq.ownsRow w.heap.size 9 1 v (j * 2) ((nextPaths (ps.take j)).map strV) ∧ Hid (∀ (j : Nat) q, ps[j]? = some q → wq.cell? ⟨g, j, none⟩ = some (strV q)) ∧ Below w.heap.size w wq ∧ g < wq.heap.size) (fun v i wq => N - (intOf i).toNat)
      case atStart => exact ⟨0, rfl, by omega, hob1, by simpa [nextPaths] using hown1, HC1, hB1, hg1⟩
      case round =>
        clear hob1 HC1 hB1 hg1 hown1
        obtain ⟨j, rfl, hj, hob, hown, HCq, hBq, hgq⟩ := hrel
        by_cases hlj : j < N
        · have hjn : (j : Int) < (N : Int) := by omega
          have hjl : j < ps.length := by rw [HPL.out]; exact hlj
          have hq : ps[j]? = some ps[j] := List.getElem?_eq_getElem hjl
          have htk : (nextPaths (ps.take (j + 1))).map strV = (nextPaths (ps.take j)).map strV ++ [strV (ps[j] ++ [76]), strV (ps[j] ++ [82])] := by
            rw [List.take_succ_eq_append_getElem hjl, nextPaths_append, List.map_append]; rfl
          have hqk := HPW.out ps[j] (List.getElem_mem hjl)
          have q1 := HCq.out j _ hq
          generalize ps[j] = q at *
          have hss : (⟨q.toArray⟩ : ByteArray).size = k := by show q.toArray.size = k; simpa using hqk
          have e76 : strV (q ++ [76]) = .string ((⟨q.toArray⟩ : ByteArray) ++ (⟨#[76]⟩ : ByteArray)) := by rw [str_add]; rfl
          have e82 : strV (q ++ [82]) = .string ((⟨q.toArray⟩ : ByteArray) ++ (⟨#[82]⟩ : ByteArray)) := by rw [str_add]; rfl
          rw [e76, e82] at htk
          unfold strV at q1
          generalize (⟨q.toArray⟩ : ByteArray) = s at *
          have HTK := Lib.hid htk
          have f1 : ¬ (9223372036854775807 < s.size + 1) := by omega
          clear hq htk hqk e76 e82 hjl
          have hsq := hBq.size
          go_wp2_with (at_builtin; refine wpList_append_own_at _ rfl _ _ 32 rfl w.heap.size 9 i0 (.string ⟨#[]⟩) 1 16 under_strs hi hz0 hz1 hz2 rfl (by decide) _ _ _ rfl (hown.alloc _) ⟨wr.heap.size, 0, none⟩ 2 2 [.string (s ++ ⟨#[76]⟩), .string (s ++ ⟨#[82]⟩)] rfl rfl (World.news_of_block (cs := #[.string (s ++ ⟨#[76]⟩), .string (s ++ ⟨#[82]⟩)]) (t := 9) (fr := (0, 0)) (heap_alloc_new wr _)) (fun x hx => by simp at hx; rcases hx with rfl | rfl <;> rfl) (by unfold maxLen; omega) (by omega) (by simp; omega) ?_; intro v' w3 hown3 hgrow3 hnil3 hat3)
          have hB3 : Below w.heap.size w w3 := Below.grown (Below.alloc hBq (by omega) _) hgrow3 (by simp; omega) (fun k hk => (hown.lt k hk).1)
          have hs3 := hgrow3.size
          simp at hs3
          have HC3 : Hid (∀ (j : Nat) q, ps[j]? = some q → w3.cell? ⟨g, j, none⟩ = some (strV q)) := Lib.hid (fun j q hj => by
            rw [grown_cell hgrow3 (g := g) (by simp; omega) hob, World.cell?_alloc_lt _ _ _ (by dsimp only; omega)]
            exact HCq.out j q hj)
          have hob3 : v'.ownBlock ≠ some g := by
            rcases hat3 with h | h
            · rw [h]; exact hob
            · rw [h]
              intro e
              have := Option.some.inj e
              simp at this
              omega
          go_roundw
          case rel => exact ⟨j + 1, by go_num, by omega, hob3, (by rw [HTK.out, show (j + 1) * 2 = j * 2 + 2 by omega]; exact hown3), HC3, hB3, by omega⟩
          case measure => simp [intOf]; omega
        · obtain rfl : j = N := by omega
          rw [List.take_of_length_le (by rw [HPL.out]; exact Nat.le_refl _)] at hown
          obtain ⟨g2, cap2, rfl, hg2, hgs2⟩ := hown.form (by omega)
          have HC2 : Hid (∀ (j : Nat) q, (paths (k + 1))[j]? = some q → wr.cell? ⟨g2, j, none⟩ = some (strV q)) := Lib.hid (fun j q hj => by
            rw [HPN.out] at hj
            exact row_at hown j (strV q) (by rw [List.getElem?_map, hj]; rfl))
          have hown2 := Lib.hid hown
          clear hown
          go_wp2
          go_roundw
          case rel => exact ⟨k + 1, g2, cap2, by go_num, by omega, by rw [HPE.out], hg2, hgs2, HC2, hBq⟩
          case measure => simp [intOf]; omega
    · obtain rfl : k = n := by omega
      have hTP := tier_paths hn
      have HTL := Lib.hid (T_len k)
      obtain ⟨ps, hps⟩ : ∃ ps, paths k = ps := ⟨_, rfl⟩
      rw [hps] at HC HPL HPW hTP
      have hSC := Lib.hid (fun (g cap : Nat) (w : World) => sort_c hn g cap w)
      obtain ⟨ts, hts⟩ : ∃ ts, T k = ts := ⟨_, rfl⟩
      have HTS := Lib.hid hts
      rw [hts] at HTL hTP hSC
      have HTP := Lib.hid hTP
      obtain ⟨N, hNN⟩ : ∃ N, 2 ^ k = N := ⟨_, rfl⟩
      have hN0 : 0 < N := by rw [← hNN]; exact Nat.two_pow_pos k
      rw [hNN] at HPL hN HTL hSC
      rw [hNN]
      clear hps hNN hts hTP
      have hown0 := own_new wr wr.heap.size 31 2 (Nat.le_refl _)
      have hown1 := own_base hown0 (show w.heap.size ≤ wr.heap.size from hB.size)
      clear hown0
      go_wp2
      have hob1 : (Value.slice (some ⟨wr.heap.size, 0, none⟩) 0 0).ownBlock ≠ some g := by
        intro e
        have := Option.some.inj e
        simp at this
        omega
      have HC1 : Hid (∀ (j : Nat) q, ps[j]? = some q → (wr.alloc (Obj.cells #[] 31)).cell? ⟨g, j, none⟩ = some (strV q)) := Lib.hid (fun j q hj => by rw [World.cell?_alloc_lt _ _ _ (by dsimp only; omega)]; exact HC.out j q hj)
      have hB1 : Below w.heap.size w (wr.alloc (Obj.cells #[] 31)) := Below.alloc hB hB.size _
      have hg1 : g < (wr.alloc (Obj.cells #[] 31)).heap.size := by simp; omega
      go_loopw [8, 38] (fun v i wq => ∃ (j : Nat), i = .int .i64 j ∧ j ≤ N ∧ v.ownBlock ≠ some g ∧ wq.ownsRow w.heap.size 31 2 v j ((flatQ (ts.take j)).map (Value.int .i64)) ∧ Hid (∀ (j : Nat) q, ps[j]? = some q → wq.cell? ⟨g, j, none⟩ = some (strV q)) ∧ Below w.heap.size w wq ∧ g < wq.heap.size) (fun v i wq => N - (intOf i).toNat)
      case atStart => exact ⟨0, rfl, by omega, hob1, by simpa [flatQ] using hown1, HC1, hB1, hg1⟩
      case round =>
        clear hob1 HC1 hB1 hg1 hown1
        obtain ⟨j, rfl, hj, hob, hown, HCq, hBq, hgq⟩ := hrel
        by_cases hlj : j < N
        · have hjn : (j : Int) < (N : Int) := by omega
          have hjl : j < ps.length := by rw [HPL.out]; exact hlj
          have hjt : j < ts.length := by rw [HTL.out]; exact hlj
          have hq : ps[j]? = some ps[j] := List.getElem?_eq_getElem hjl
          obtain ⟨x, y, hxy⟩ : ∃ x y, fol 0 1 1 0 ps[j] = (x, y) := ⟨_, _, rfl⟩
          have hts : ts[j] = (x, y) := by
            have h1 := HTP.out
            subst h1
            simpa using hxy
          have htk : (flatQ (ts.take (j + 1))).map (Value.int .i64) = (flatQ (ts.take j)).map (Value.int .i64) ++ [.int .i64 x, .int .i64 y] := by
            rw [List.take_succ_eq_append_getElem hjt, flatQ_append, List.map_append, hts]; rfl
          have hqk := HPW.out ps[j] (List.getElem_mem hjl)
          have q1 := HCq.out j _ hq
          generalize ps[j] = q at *
          have KF := fun w => follow_c ⟨q.toArray⟩ x y w (by show q.toArray.size ≤ 40; simp; omega) (by simpa using hxy)
          have HKF := Lib.hid KF
          unfold strV at q1
          generalize (⟨q.toArray⟩ : ByteArray) = s at *
          have HTK := Lib.hid htk
          clear hq htk hqk hjl hjt hxy hts KF
          have hsq := hBq.size
          go_wp2_with fail
          refine (HKF.out _).mono ?_
          rintro e w2 ⟨rfl, b2⟩
          have hown2 := ownF_bl hown b2
          have hs2 := b2.size
          have hB2 : Below w.heap.size w w2 := Below.trans hBq (Below.mono b2 (by omega))
          have HC2 : Hid (∀ (j : Nat) q, ps[j]? = some q → w2.cell? ⟨g, j, none⟩ = some (strV q)) := Lib.hid (fun j q hj => by rw [b2.cell (p := ⟨g, j, none⟩) hgq]; exact HCq.out j q hj)
          clear hown hBq HCq q1 b2
          go_wp2_with (at_builtin; refine wpList_append_own_at _ rfl _ _ 22 rfl w.heap.size 31 i1 (.agg #[.int .i64 0, .int .i64 0]) 2 16 under_Qs hi1 hy0 hy1 hy2 rfl (by decide) _ _ _ rfl (hown2.alloc _) ⟨w2.heap.size, 0, none⟩ 1 1 [.int .i64 x, .int .i64 y] rfl rfl (World.news_of_block (cs := #[.int .i64 x, .int .i64 y]) (t := 31) (fr := (0, 0)) (heap_alloc_new w2 _)) (fun x hx => by simp at hx; rcases hx with rfl | rfl <;> rfl) (by unfold maxLen; omega) (by omega) (by simp; omega) ?_; intro v' w3 hown3 hgrow3 hnil3 hat3)
          have hB3 : Below w.heap.size w w3 := Below.grown (Below.alloc hB2 (by omega) _) hgrow3 (by simp; omega) (fun k hk => (hown2.lt k hk).1)
          have hs3 := hgrow3.size
          simp at hs3
          have HC3 : Hid (∀ (j : Nat) q, ps[j]? = some q → w3.cell? ⟨g, j, none⟩ = some (strV q)) := Lib.hid (fun j q hj => by
            rw [grown_cell hgrow3 (g := g) (by simp; omega) hob, World.cell?_alloc_lt _ _ _ (by dsimp only; omega)]
            exact HC2.out j q hj)
          have hob3 : v'.ownBlock ≠ some g := by
            rcases hat3 with h | h
            · rw [h]; exact hob
            · rw [h]
              intro e
              have := Option.some.inj e
              simp at this
              omega
          go_roundw
          case rel => exact ⟨j + 1, by go_num, by omega, hob3, (by rw [HTK.out]; exact hown3), HC3, hB3, by omega⟩
          case measure => simp [intOf]; omega
        · obtain rfl : j = N := by omega
          rw [List.take_of_length_le (by rw [HTL.out]; exact Nat.le_refl _)] at hown
          obtain ⟨g2, cap2, rfl, hg2, hgs2⟩ := hown.form (by omega)
          have hO := OwnF.of_row (by omega) hown
          have KS : Calls Try.prog 13 #[.slice (some ⟨g2, 0, none⟩) j cap2, .func (.func 14) #[] #[]] wr fun e w' => e = .returned (.tuple #[]) ∧ Below wr.heap.size wr w' := by
            rcases hO with ⟨h1, -⟩ | ⟨g3, n3, c3, h1, h2, h3, h4, h5, h6⟩
            · exfalso
              have h2 := flatQ_len ts
              rw [h1, HTL.out] at h2
              simp at h2; omega
            · obtain rfl : g2 = g3 := by injection h1 with e; injection e with e; injection e
              refine hSC.out g2 cap2 wr h4 (fun i hi => h5 i ?_) h6
              rw [flatQ_len, HTL.out]; exact hi
          have HO := Lib.hid hO
          have HKS := Lib.hid KS
          clear hO hown KS
          have hsq := hBq.size
          go_wp2_with fail
          refine HKS.out.mono ?_
          rintro e w2 ⟨rfl, b2⟩
          go_wp2
          go_returns
          exact ⟨_, rfl, by rw [HTS.out]; exact HO.out.below b2 (Nat.le_refl _), Below.trans hBq (Below.mono b2 hsq)⟩
theorem FnExactTierOf_w (n0 : Int) (_ : (Lit.int .i64 n0).wf = true) (W : World) :
    Calls Try.prog 3 #[.int .i64 n0] W fun e w' => e = .returned (.bool true) ∧ Below W.heap.size W w' := by
  by_cases h : 0 ≤ n0 ∧ n0 ≤ 7
  · obtain ⟨n, rfl⟩ : ∃ n : Nat, n0 = n := ⟨n0.toNat, by omega⟩
    have hn : n ≤ 7 := by omega
    have hl : (flatQ (T n)).length ≤ 1000000000000 := by rw [flatQ_len, T_len]; have := pow2_le hn; omega
    exact TierOf_law n 0 W _ hl (Lib.hid (fun w => TierOf_yes n w hn)) (Lib.hid (fun w => sTierOf_yes n w hn))
  · have h' : (decide (0 ≤ n0) && decide (n0 ≤ 7)) = false := by simp; omega
    exact TierOf_law n0 2 W [] (by simp) (Lib.hid (fun w => TierOf_no n0 w h')) (Lib.hid (fun w => sTierOf_no n0 w h'))
end Go.Proofs.Ytandannjdhnlmaa
