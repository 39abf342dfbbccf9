/- The numbers of a text: the program's numbersOf. -/
import Derived.Test.YtagjgpbcpjcceaaDoorTG
import Derived.Lib.ItoaLen
import Derived.Lib.ParseIntBTie
import Derived.Lib.AtoiErrMem
import Derived.Maps.AppendAt
namespace Go.Proofs.YtagjgpbcpjcceaaDoor
open Go.RowKit
set_option linter.unusedVariables false
set_option linter.unusedSimpArgs false
theorem joinT_lenW {zs : List Int} {b : UInt8} (h : ∀ z ∈ zs, -9223372036854775808 ≤ z ∧ z ≤ 9223372036854775807) : (joinT zs b).length ≤ 22 * zs.length := by
  cases zs with
  | nil => simp [joinT, Lib.join_nil]
  | cons z r =>
    have hz := h z (by simp)
    have h1 := Lib.itoa_length_le _ hz.1 hz.2
    have h2 : ∀ r : List Int, (∀ z ∈ r, -9223372036854775808 ≤ z ∧ z ≤ 9223372036854775807) → (Lib.joinTail [b] (r.map Lib.itoa)).length ≤ 22 * r.length := by
      intro r hr
      induction r with
      | nil => simp [Lib.joinTail]
      | cons y r ih =>
        have hy := hr y (by simp)
        have := Lib.itoa_length_le _ hy.1 hy.2
        have := ih (fun z hz => hr z (by simp [hz]))
        simp only [Lib.joinTail, List.map_cons, List.flatten_cons, List.length_append, List.length_cons, List.length_nil] at *
        omega
    have h3 := h2 r (fun z hz => h z (by simp [hz]))
    simp only [joinT, List.map_cons, Lib.join_cons, List.length_append, List.length_cons] at *
    omega
set_option maxRecDepth 100000 in
set_option maxHeartbeats 4000000 in
theorem joined_w (b n c : Nat) (zs : List Int) (y : UInt8) (w : World) (hb : b < w.heap.size) (HR : Hid (∀ k, k < zs.length → w.cell? ⟨b, 0 + k, none⟩ = some (.int .i64 (zs.getD k 0)))) (HL : Hid (zs.length = n)) (hn0 : 1 ≤ n) (hn : n ≤ 1000) (HE : Hid (∀ z ∈ zs, -9223372036854775808 ≤ z ∧ z ≤ 9223372036854775807))
    (HT : Hid (Lib.TabBelow Tryd.prog w.heap.size w "internal/strconv.uint64pow10" .u64 Lib.pow10Tab)) :
    Calls Tryd.prog 28 #[.slice (some ⟨b, 0, none⟩) n c, .string ⟨#[y]⟩] w fun e w' => e = .returned (.string ⟨(joinT zs y).toArray⟩) ∧ Below w.heap.size w w' := by
  obtain ⟨i0, hi, hz0, hz1, hz2⟩ := info_parts info_str
  have hown0 := own_new w w.heap.size 9 1 (Nat.le_refl _)
  go_enter Tryd.func28, Tryd.ntmps28
  go_wp2
  go_loopw [5, 11] (fun v i wr => ∃ (k : Nat), i = .int .i64 k ∧ k ≤ n ∧ v ≠ .slice none 0 0 ∧ wr.ownsRow w.heap.size 9 1 v k (txts (zs.take k)) ∧ Below w.heap.size w wr ∧ w.heap.size < wr.heap.size) (fun v i wr => n - (intOf i).toNat)
  case atStart => exact ⟨0, rfl, by omega, by simp, by simpa [txts] using hown0, (by repeat' (first | (with_reducible exact Below.refl _ _) | (with_reducible assumption) | (with_reducible refine below_drewN ?_ _) | (with_reducible refine Below.drew ?_) | (with_reducible refine Below.alloc ?_ ?_ _) | (with_reducible refine Below.setCell ?_ ?_ _) | (with_reducible refine Below.trans ?_ (Below.mono (by with_reducible assumption) ?_)) | go_size | (dsimp only; omega))), by simp⟩
  case round =>
    obtain ⟨k, rfl, hk, hnn, hown, hB, hsz⟩ := hrel
    clear hown0
    by_cases hlt : k < n
    · have hkn : (k : Int) < (n : Int) := by omega
      have hlen : k < zs.length := by rw [HL.out]; exact hlt
      have q1 : wr.cell? ⟨b, k, none⟩ = some (.int .i64 (zs.getD k 0)) := by
        rw [hB.cell (p := ⟨b, k, none⟩) hb]; have := HR.out k hlen; simpa only [Nat.zero_add] using this
      have hz := HE.out (zs.getD k 0) (by simp [List.getD, List.getElem?_eq_getElem hlen])
      have htk : txts (zs.take (k + 1)) = txts (zs.take k) ++ [Value.string (txt (zs.getD k 0))] := by
        rw [List.take_succ_eq_append_getElem hlen]; simp only [txts, List.map_append, List.map_cons, List.map_nil, List.getD, List.getElem?_eq_getElem hlen, Option.getD_some]
      have HTK := Lib.hid htk
      generalize zs.getD k 0 = z at *
      clear htk
      have HTW := Lib.hid (HT.out.on hB).here
      go_wp2_with fail
      refine (Tryd.strconv_FormatInt_10 z (by omega) (by omega) _ HTW.out).mono ?_
      rintro e w2 ⟨rfl, kk, os, hgr⟩
      have b2 : Below wr.heap.size wr w2 := by rw [hgr]; exact Lib.below_grow _ _ (Nat.le_refl _) _ _
      clear hgr
      have hown2 := own_blT hown b2
      have hB2 : Below w.heap.size w w2 := Below.trans hB (Below.mono b2 (by omega))
      have hs2 := b2.size
      clear hown hB b2
      rw [show (⟨(Lib.itoa z).toArray⟩ : ByteArray) = txt z from rfl]
      go_wp2_with (at_builtin; refine wpList_append_own _ rfl _ _ 65 rfl w.heap.size 9 i0 (.string ⟨#[]⟩) 1 16 under_strs hi hz0 hz1 hz2 rfl (by decide) _ _ _ rfl (hown2.alloc _) ⟨w2.heap.size, 0, none⟩ 1 1 [.string (txt z)] rfl rfl (cell_one_new _ _ _) (fun x hx => by simp at hx; subst hx; rfl) (by unfold maxLen; omega) (by omega) (by simp; omega) ?_; intro v' w3 hown3 hgrow3 hnil3)
      have hB3 : Below w.heap.size w w3 := Below.grown (Below.alloc hB2 (by omega) _) hgrow3 (by simp; omega) (fun k hk => (hown2.lt k hk).1)
      have hs3 := hgrow3.size
      simp at hs3
      go_roundw
      case rel => exact ⟨k + 1, by go_num, by omega, (by intro e; exact absurd ((hnil3.mp e).2) (by decide)), (by rw [HTK.out]; exact hown3), hB3, by omega⟩
      case measure => simp [intOf]; omega
    · obtain rfl : k = n := by omega
      rw [List.take_of_length_le (by rw [HL.out]; exact Nat.le_refl _)] at hown
      have hc := @World.ownsRow.cells wr w.heap.size 9 1 _ k _ hown
      rcases hown.2 with ⟨h1, h2⟩ | ⟨g, cap, cur, hv, hbg, hg, h3, h4, h5, h6⟩
      · exact absurd h1 hnn
      subst hv
      have hgl : g < wr.heap.size := (hown.lt g rfl).2
      have hcells : ∀ (j : Nat) x, (zs.map txt)[j]? = some x → wr.cell? ⟨g, 0 + j, none⟩ = some (.string x) := by
        intro j x hj
        have h0 : (txts zs)[j]? = some (.string x) := by
          rw [List.getElem?_map] at hj
          obtain ⟨z, hz, rfl⟩ := Option.map_eq_some_iff.mp hj
          simp [txts, hz]
        have := hc (g := g) rfl j _ h0
        by_cases hj0 : j = 0
        · subst hj0; simpa [Addr.add] using this
        · simpa [Addr.add, hj0] using this
      have hlenj : (zs.map txt).length = k := by simp [HL.out]
      have hjm : ((zs.map txt).map (·.data.toList)) = zs.map Lib.itoa := by simp [txt, Function.comp_def]
      have hjl := joinT_lenW (b := y) HE.out
      rw [HL.out] at hjl
      have K := Tryd.strings_Join g 0 cap (zs.map txt) ⟨#[y]⟩ wr hcells hgl (by rw [hlenj]; omega) (by rw [hlenj]; exact h3) (by rw [hjm]; show (joinT zs y).length ≤ _; omega)
      rw [hlenj, hjm] at K
      have HK := Lib.hid K
      clear hc hcells K hown h6 hjm
      go_wp2_with fail
      refine HK.out.mono ?_
      rintro e w2 ⟨rfl, b2⟩
      go_wp2
      go_returns
      exact ⟨rfl, Below.trans hB (Below.mono b2 (by omega))⟩
/-- what a word is to ParseInt -/
def pv (q : List UInt8) : Option Int := match Lib.parseIntB 64 q with
  | .ok v => some v
  | _ => none
theorem pv_some {q : List UInt8} {v : Int} (h : pv q = some v) : Lib.parseIntB 64 q = .ok v ∧ -9223372036854775808 ≤ v ∧ v ≤ 9223372036854775807 := by
  unfold pv at h
  split at h
  · rename_i u hu
    obtain rfl := Option.some.inj h
    have := Lib.parseIntB_bounds hu
    refine ⟨hu, ?_, ?_⟩
    · have := this.1; simp at this; omega
    · have := this.2; simp at this; omega
  · cases h
def allP (qs : List (List UInt8)) : Bool := qs.all fun q => (pv q).isSome
def valsP (qs : List (List UInt8)) : List Int := qs.map fun q => (pv q).getD 0
/-- is it a list of so many numbers, and are they the text's -/
def flagP (qs : List (List UInt8)) (many : Nat) (y : UInt8) (l : List UInt8) : Bool := allP qs && decide ((valsP qs).length = many) && decide (joinT (valsP qs) y = l)
/-- what the library's variables hold, now and later -/
structure Vars (w : World) (m : Int) (t1 t2 : TypeId) (p1 p2 : Value) : Prop where
  max : ∀ W, Below w.heap.size w W → W.cell? ⟨5, 0, none⟩ = some (.int .i64 m)
  syn : ∀ W, Below w.heap.size w W → W.cell? ⟨3, 0, none⟩ = some (.iface t1 p1)
  rng : ∀ W, Below w.heap.size w W → W.cell? ⟨4, 0, none⟩ = some (.iface t2 p2)
  tab : Lib.TabBelow Tryd.prog w.heap.size w "internal/strconv.uint64pow10" .u64 Lib.pow10Tab
theorem Vars.later {w w1 : World} {m : Int} {t1 t2 : TypeId} {p1 p2 : Value} (h : Vars w m t1 t2 p1 p2) (hb : Below w.heap.size w w1) : Vars w1 m t1 t2 p1 p2 :=
  ⟨fun W hW => h.max W (Below.trans hb (Below.mono hW hb.size)), fun W hW => h.syn W (Below.trans hb (Below.mono hW hb.size)), fun W hW => h.rng W (Below.trans hb (Below.mono hW hb.size)), tab_at h.tab hb hb.size⟩
theorem parseInt_ok (s : ByteArray) (v : Int) (w : World) (hs : s.size ≤ 1000000000000) (h : pv s.data.toList = some v) :
    Calls Tryd.prog 53 #[.string s, .int .i64 10, .int .i64 64] w fun e w' => e = .returned (.tuple #[.int .i64 v, .nilIface]) ∧ Below w.heap.size w w' := by
  refine (Tryd.strconv_ParseInt_10_at64_ok s (by omega) v (pv_some h).1 w).mono ?_
  rintro e w' ⟨rfl, hw⟩
  refine ⟨rfl, ?_⟩
  rcases hw with rfl | ⟨t, rfl⟩
  · exact Below.refl _ _
  · exact Lib.bytesWorld_below _ _ _
theorem parseInt_bad (s : ByteArray) (w : World) (m : Int) (t1 t2 : TypeId) (p1 p2 : Value) (hs : s.size ≤ 1000000000000) (h : pv s.data.toList = none) (V : Vars w m t1 t2 p1 p2) :
    Calls Tryd.prog 53 #[.string s, .int .i64 10, .int .i64 64] w fun e w' => ∃ (z : Int) (t : TypeId) (N : Nat), e = .returned (.tuple #[.int .i64 z, .iface t (.pointer (some ⟨N, 0, none⟩))]) ∧ Below w.heap.size w w' := by
  rcases hp : Lib.parseIntB 64 s.data.toList with v | _ | _
  · unfold pv at h; rw [hp] at h; cases h
  · refine (Tryd.strconv_ParseInt_10_at64_syntax s (by omega) hp _ w (V.syn w (Below.refl _ _)) (.inr ⟨_, _, rfl⟩)).mono ?_
    rintro e w' ⟨N, rfl, -, -, hb⟩
    exact ⟨_, _, N, rfl, hb⟩
  · refine (Tryd.strconv_ParseInt_10_at64_range s (by omega) hp _ w (V.rng w (Below.refl _ _)) (.inr ⟨_, _, rfl⟩)).mono ?_
    rintro e w' ⟨N, rfl, -, -, hb⟩
    exact ⟨_, _, N, rfl, hb⟩
set_option maxRecDepth 100000 in
set_option maxHeartbeats 4000000 in
theorem numbersOf_c (s : ByteArray) (y : UInt8) (many : Nat) (w : World) (m : Int) (t1 t2 : TypeId) (p1 p2 : Value) (hs : s.size ≤ 1000000000) (hm1 : 1 ≤ many) (hm2 : many ≤ 1000) (VV : Hid (Vars w m t1 t2 p1 p2)) (qs : List (List UInt8)) (hqs : qs = Lib.splitK [y] 0 (min (many + 1) (s.size + 1) - 1) s.data.toList) (hql : ∀ q ∈ qs, q.length ≤ 1000000000) :
    Calls Tryd.prog 33 #[.string s, .string ⟨#[y]⟩, .int .i64 many] w fun e w' => ∃ v, e = .returned (.tuple #[v, .bool (flagP qs many y s.data.toList)]) ∧ Hid (flagP qs many y s.data.toList = true → OwnI w.heap.size w' v (valsP qs)) ∧ Below w.heap.size w w' := by
  obtain ⟨i0, hi, hz0, hz1, hz2⟩ := info_parts info_i64
  have hown0 := own_new w w.heap.size 2 1 (Nat.le_refl _)
  have KS := Tryd.strings_SplitN s ⟨#[y]⟩ (many + 1) m (w.alloc (Obj.cells #[] 2)) (by omega) (VV.out.max _ (Below.alloc (Below.refl _ _) (Nat.le_refl _) _)) (by show 1 ≤ #[y].size; simp) (by omega) (by omega)
  have hbn := Lib.splitB_length_le ⟨#[y]⟩ 0 (min (many + 1) (s.size + 1) - 1) s
  have hdata := Lib.splitB_data ⟨#[y]⟩ 0 (min (many + 1) (s.size + 1) - 1) s
  rw [show (⟨#[y]⟩ : ByteArray).data.toList = [y] from rfl, ← hqs] at hdata
  generalize Lib.splitB ⟨#[y]⟩ 0 (min (many + 1) (s.size + 1) - 1) s = bs at *
  generalize hN : min (many + 1) (s.size + 1) = NN at *
  have hbl : bs.length = qs.length := by rw [← hdata, List.length_map]
  rw [hbl] at KS
  have hqn : qs.length ≤ 1000000 := by omega
  have HBS : Hid (∀ (j : Nat) q, qs[j]? = some q → (Lib.cellsOf bs NN)[j]? = some (.string ⟨q.toArray⟩)) := by
    apply Lib.hid
    intro j q hj
    rw [← hdata, List.getElem?_map] at hj
    obtain ⟨b, hb, rfl⟩ := Option.map_eq_some_iff.mp hj
    have hlt := (List.getElem?_eq_some_iff.mp hb).1
    unfold Lib.cellsOf
    rw [List.getElem?_toArray, List.getElem?_append_left (by simpa using hlt), List.getElem?_map, hb]
    rfl
  have HKS := Lib.hid KS
  have HQL := Lib.hid hql
  generalize hn : qs.length = n at *
  have HN := Lib.hid hn
  obtain ⟨F, hF⟩ : ∃ F, flagP qs many y s.data.toList = F := ⟨_, rfl⟩
  rw [hF]
  have HF := Lib.hid hF
  clear KS hdata hbl hqs hql hn hF hN
  go_enter Tryd.func33, Tryd.ntmps33
  go_wp2_with fail
  rw [show ((many : Int) + 1) = ((many + 1 : Nat) : Int) by omega]
  refine HKS.out.mono ?_
  rintro e w1 ⟨rfl, hw1⟩
  have hown1 : w1.ownsRow w.heap.size 2 1 (.slice (some ⟨w.heap.size, 0, none⟩) 0 0) 0 [] := by rw [hw1]; exact hown0.alloc _
  have hB1 : Below w.heap.size w w1 := by rw [hw1]; exact (by repeat' (first | (with_reducible exact Below.refl _ _) | (with_reducible assumption) | (with_reducible refine below_drewN ?_ _) | (with_reducible refine Below.drew ?_) | (with_reducible refine Below.alloc ?_ ?_ _) | (with_reducible refine Below.setCell ?_ ?_ _) | (with_reducible refine Below.trans ?_ (Below.mono (by with_reducible assumption) ?_)) | go_size | (dsimp only; omega)))
  have hs1 : w1.heap.size = w.heap.size + 2 := by rw [hw1]; simp
  have HC1 : Hid (∀ (j : Nat) q, qs[j]? = some q → w1.cell? ⟨w.heap.size + 1, j, none⟩ = some (.string ⟨q.toArray⟩)) := by
    apply Lib.hid
    intro j q hj
    rw [hw1]
    rw [World.cell?_alloc_at _ _ _ _ (by simp)]
    exact HBS.out j q hj
  rw [show (w.alloc (Obj.cells #[] 2)).heap.size = w.heap.size + 1 by simp]
  clear hw1 hown0
  go_wp2
  go_loopw [8, 22] (fun v i wr => ∃ (k : Nat), i = .int .i64 k ∧ k ≤ n ∧ Hid (∀ j q, j < k → qs[j]? = some q → (pv q).isSome = true) ∧ v.ownBlock ≠ some (w.heap.size + 1) ∧ wr.ownsRow w.heap.size 2 1 v k (((valsP qs).take k).map (Value.int .i64)) ∧ Hid (∀ (j : Nat) q, qs[j]? = some q → wr.cell? ⟨w.heap.size + 1, j, none⟩ = some (.string ⟨q.toArray⟩)) ∧ Below w.heap.size w wr ∧ w.heap.size + 1 < wr.heap.size) (fun v i wr => n - (intOf i).toNat)
  case atStart => exact ⟨0, rfl, by omega, Lib.hid (by intro j q h; omega), by simp [Value.ownBlock], by simpa using hown1, HC1, hB1, by omega⟩
  case round =>
    obtain ⟨k, rfl, hk, HG, hob, hown, HC, hB, hsz⟩ := hrel
    clear hown1 HC1 hB1 hs1
    by_cases hlt : k < n
    · have hki : (k : Int) < (n : Int) := by omega
      have hkl : k < qs.length := by rw [HN.out]; exact hlt
      obtain ⟨q, hq⟩ : ∃ q, qs[k]? = some q := ⟨qs[k], List.getElem?_eq_getElem hkl⟩
      have hqm : q ∈ qs := List.mem_of_getElem? hq
      have hqs2 : (⟨q.toArray⟩ : ByteArray).size ≤ 1000000000000 := by have := HQL.out q hqm; show q.toArray.size ≤ _; simp; omega
      have q1 : wr.cell? ⟨w.heap.size + 1, k, none⟩ = some (.string ⟨q.toArray⟩) := HC.out k q hq
      have HQ := Lib.hid hq
      cases hpv : pv q with
      | none =>
        obtain rfl : F = false := by
          rw [← HF.out]
          unfold flagP
          have : allP qs = false := by
            unfold allP
            rw [List.all_eq_false]
            exact ⟨q, hqm, by rw [hpv]; simp⟩
          rw [this]; rfl
        have KP := parseInt_bad ⟨q.toArray⟩ wr m t1 t2 p1 p2 hqs2 hpv (VV.out.later hB)
        have HKP := Lib.hid KP
        clear KP hpv hqs2 hqm hkl hq
        go_wp2_with fail
        refine HKP.out.mono ?_
        rintro e w2 ⟨z, tt, N, rfl, b2⟩
        go_wp2
        go_returns
        exact ⟨_, rfl, Lib.hid (fun h => by cases h), Below.trans hB (Below.mono b2 (by omega))⟩
      | some z =>
        have KP := parseInt_ok ⟨q.toArray⟩ z wr hqs2 hpv
        have HKP := Lib.hid KP
        have HG2 : Hid (∀ j q, j < k + 1 → qs[j]? = some q → (pv q).isSome = true) := by
          apply Lib.hid
          intro j r hj hr
          by_cases e : j = k
          · subst e
            rw [HQ.out] at hr
            rw [← Option.some.inj hr, hpv]; rfl
          · exact HG.out j r (by omega) hr
        have htk : ((valsP qs).take (k + 1)).map (Value.int .i64) = ((valsP qs).take k).map (Value.int .i64) ++ [.int .i64 z] := by
          have hnk : k < (valsP qs).length := by simp [valsP]; exact hkl
          have hv : (valsP qs)[k] = z := by
            rw [List.getElem?_eq_getElem hkl] at hq
            simp [valsP, Option.some.inj hq, hpv]
          rw [List.take_succ_eq_append_getElem hnk, hv]; simp
        have HTK := Lib.hid htk
        clear KP hpv hqs2 hqm hkl hq htk
        go_wp2_with fail
        refine HKP.out.mono ?_
        rintro e w2 ⟨rfl, b2⟩
        have hown2 := own_blT hown b2
        have hB2 : Below w.heap.size w w2 := Below.trans hB (Below.mono b2 (by omega))
        have hs2 := b2.size
        have HC2 : Hid (∀ (j : Nat) q, qs[j]? = some q → w2.cell? ⟨w.heap.size + 1, j, none⟩ = some (.string ⟨q.toArray⟩)) := Lib.hid (fun j q hj => by rw [b2.cell (p := ⟨w.heap.size + 1, j, none⟩) (by dsimp only; omega)]; exact HC.out j q hj)
        clear hown hB b2 HC q1
        go_wp2_with (at_builtin; refine wpList_append_own_at _ rfl _ _ 45 rfl w.heap.size 2 i0 (.int .i64 0) 1 8 under_i64s hi hz0 hz1 hz2 rfl (by decide) _ _ _ rfl (hown2.alloc _) ⟨w2.heap.size, 0, none⟩ 1 1 [.int .i64 z] rfl rfl (cell_one_new _ _ _) (fun x hx => by simp at hx; subst hx; rfl) (by unfold maxLen; omega) (by omega) (by simp; omega) ?_; intro v' w3 hown3 hgrow3 hnil3 hat3)
        have hB3 : Below w.heap.size w w3 := Below.grown (Below.alloc hB2 (by omega) _) hgrow3 (by simp; omega) (fun k hk => (hown2.lt k hk).1)
        have hs3 := hgrow3.size
        simp at hs3
        have HC3 : Hid (∀ (j : Nat) q, qs[j]? = some q → w3.cell? ⟨w.heap.size + 1, j, none⟩ = some (.string ⟨q.toArray⟩)) := Lib.hid (fun j q hj => by
          rw [grown_cell hgrow3 (g := w.heap.size + 1) (by simp; omega) hob, World.cell?_alloc_lt _ _ _ (by dsimp only; omega)]
          exact HC2.out j q hj)
        have hob3 : v'.ownBlock ≠ some (w.heap.size + 1) := by
          rcases hat3 with h | h
          · rw [h]; exact hob
          · rw [h]
            intro e
            have := Option.some.inj e
            simp at this
            omega
        go_roundw
        case rel => exact ⟨k + 1, by go_num, by omega, HG2, hob3, (by rw [HTK.out]; exact hown3), HC3, hB3, by omega⟩
        case measure => simp [intOf]; omega
    · obtain rfl : k = n := by omega
      have hall : allP qs = true := by
        unfold allP
        apply List.all_eq_true.mpr
        intro q hq
        obtain ⟨j, hj⟩ := List.getElem?_of_mem hq
        exact HG.out j q (by have := (List.getElem?_eq_some_iff.mp hj).1; rw [HN.out] at this; exact this) hj
      have hnl : (valsP qs).length = k := by unfold valsP; rw [List.length_map, HN.out]
      rw [List.take_of_length_le (by rw [hnl]; exact Nat.le_refl _), ← hnl] at hown
      have hbd : ∀ z ∈ valsP qs, -9223372036854775808 ≤ z ∧ z ≤ 9223372036854775807 := by
        intro z hz
        unfold valsP at hz
        obtain ⟨q, hq, rfl⟩ := List.mem_map.mp hz
        have := List.all_eq_true.mp (show qs.all (fun q => (pv q).isSome) = true from hall) q hq
        cases hp : pv q with
        | none => rw [hp] at this; cases this
        | some v => exact (pv_some hp).2
      have HBD := Lib.hid hbd
      have HO := Lib.hid ((OwnI.of_row hown))
      have hfl : flagP qs many y s.data.toList = (decide (k = many) && decide (joinT (valsP qs) y = s.data.toList)) := by
        unfold flagP
        rw [hall, hnl]; rfl
      have HFL := Lib.hid (HF.out.symm.trans hfl)
      have HNL := Lib.hid hnl
      by_cases hkm : k = many
      · subst hkm
        have hrow := HO.out
        rcases hrow with ⟨h, _⟩ | ⟨g, cg, hv, hg0, hg1, hg2, -⟩
        · rw [h] at hnl; simp at hnl; omega
        rw [hnl] at hv
        subst hv
        have KJ := joined_w g k cg (valsP qs) y wr hg1 (Lib.hid (fun j hj => hg2 j hj)) (Lib.hid hnl) hm1 hm2 HBD (Lib.hid (VV.out.later hB).tab)
        have HKJ := Lib.hid KJ
        by_cases hj : joinT (valsP qs) y = s.data.toList
        · have hs2 : (⟨(joinT (valsP qs) y).toArray⟩ : ByteArray) = s := by rw [hj]
          have HS2 := Lib.hid hs2
          obtain rfl : F = true := by rw [HFL.out, hj]; simp
          clear KJ hall hbd hg2 hfl hj hs2 hown hnl
          go_wp2_with fail
          refine HKJ.out.mono ?_
          rintro e w2 ⟨rfl, b2⟩
          rw [HS2.out]
          go_wp2
          go_returns
          exact ⟨_, rfl, Lib.hid (by first | exact HO.out.below b2 (Nat.le_refl _) | exact fun _ => HO.out.below b2 (Nat.le_refl _)), Below.trans hB (Below.mono b2 (by omega))⟩
        · have hs2 : ¬ (⟨(joinT (valsP qs) y).toArray⟩ : ByteArray) = s := by
            intro e
            apply hj
            rw [← e]
          obtain rfl : F = false := by rw [HFL.out]; simp [hj]
          generalize (⟨(joinT (valsP qs) y).toArray⟩ : ByteArray) = js at *
          have hcmp : (js.toList == s.toList) = false := by
            rw [beq_eq_false_iff_ne, ByteArray.toList_eq, ByteArray.toList_eq]
            intro e
            apply hs2
            apply ByteArray.ext
            exact Array.toList_inj.mp e
          clear hs2
          clear KJ hall hbd hg2 hfl hj hown hnl
          go_wp2_with fail
          refine HKJ.out.mono ?_
          rintro e w2 ⟨rfl, b2⟩
          go_wp2
          go_returns
          exact ⟨_, rfl, Lib.hid (fun h => by cases h), Below.trans hB (Below.mono b2 (by omega))⟩
      · obtain rfl : F = false := by rw [HFL.out]; simp [hkm]
        have hki : ¬ ((k : Int) = (many : Int)) := by omega
        have hkb : ((k : Int) == (many : Int)) = false := by rw [beq_eq_false_iff_ne]; exact hki
        have hform := HO.out
        rcases hform with ⟨h, p, c, hv⟩ | ⟨g, cg, hv, hg0, hg1, hg2, -⟩
        · have hk0 : k = 0 := by rw [← HNL.out, h]; rfl
          subst hv hk0
          clear hall hbd hfl hown hnl
          go_wp2
          go_returns
          exact ⟨_, rfl, Lib.hid (fun h => by cases h), hB⟩
        · rw [HNL.out] at hv
          subst hv
          clear hall hbd hfl hown hnl hg2
          go_wp2
          go_returns
          exact ⟨_, rfl, Lib.hid (fun h => by cases h), hB⟩
end Go.Proofs.YtagjgpbcpjcceaaDoor
