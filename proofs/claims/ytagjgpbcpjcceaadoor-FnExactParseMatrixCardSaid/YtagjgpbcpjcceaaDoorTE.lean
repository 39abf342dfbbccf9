/- Texts cut at a byte: the reference's l01Split. -/
import Derived.Test.YtagjgpbcpjcceaaDoorTD
namespace Go.Proofs.YtagjgpbcpjcceaaDoor
open Go.RowKit
set_option linter.unusedVariables false
set_option linter.unusedSimpArgs false
def str (p : List UInt8) : Value := .string ⟨p.toArray⟩
theorem extract_str (s : ByteArray) (a k : Nat) : (Value.string (s.extract a k)) = str ((s.data.toList.take k).drop a) := by
  unfold str
  congr 1
  apply ByteArray.ext
  apply Array.ext'
  simp [ByteArray.data_extract, List.drop_take]
theorem take_snoc9 {l : List UInt8} {k : Nat} (h : k < l.length) : l.take (k + 1) = l.take k ++ [l[k]] := List.take_succ_eq_append_getElem h
theorem drop_split {l : List UInt8} {a k : Nat} (ha : a ≤ k) (h : k < l.length) : l.drop a = (l.take k).drop a ++ l[k] :: l.drop (k + 1) := by
  have h1 : l = l.take k ++ (l[k] :: l.drop (k + 1)) := by rw [← List.drop_eq_getElem_cons h, List.take_append_drop]
  conv => lhs; rw [h1]
  rw [List.drop_append_of_le_length (by rw [List.length_take]; omega)]
set_option maxRecDepth 100000 in
set_option maxHeartbeats 4000000 in
theorem l01Split_c (s : ByteArray) (y : UInt8) (w : World) (hs : s.size ≤ 1000000000) :
    Calls Tryd.prog 65 #[.string s, .int .u8 y.toNat] w fun e w' => ∃ g cap, e = .returned (.slice (some ⟨g, 0, none⟩) (parts y s.data.toList).length cap) ∧ w.heap.size ≤ g ∧ g < w'.heap.size ∧ Hid (∀ (j : Nat) p, (parts y s.data.toList)[j]? = some p → w'.cell? ⟨g, 0 + j, none⟩ = some (str p)) ∧ Below w.heap.size w w' := by
  have hlen : s.data.toList.length = s.size := by simp
  have HLEN := Lib.hid hlen
  clear hlen
  obtain ⟨i0, hi, hz0, hz1, hz2⟩ := info_parts info_str
  have hown0 := own_new w w.heap.size 9 1 (Nat.le_refl _)
  go_enter Tryd.func65, Tryd.ntmps65
  go_wp2
  go_loopw [5, 6, 7] (fun v at_ i wr => ∃ (k a : Nat) (done : List (List UInt8)), at_ = .int .i64 a ∧ i = .int .i64 k ∧ a ≤ k ∧ k ≤ s.size ∧ done.length ≤ k ∧ v ≠ .slice none 0 0 ∧ wr.ownsRow w.heap.size 9 1 v done.length (done.map str) ∧ Hid (y ∉ (s.data.toList.take k).drop a) ∧ Hid (done ++ parts y (s.data.toList.drop a) = parts y s.data.toList) ∧ Below w.heap.size w wr ∧ w.heap.size < wr.heap.size) (fun v at_ i wr => s.size - (intOf i).toNat)
  case atStart => exact ⟨0, 0, [], rfl, rfl, by omega, by omega, by simp, by simp, by simpa using hown0, Lib.hid (by simp), Lib.hid (by simp), (by repeat' (first | (with_reducible exact Below.refl _ _) | (with_reducible assumption) | (with_reducible refine below_drewN ?_ _) | (with_reducible refine Below.drew ?_) | (with_reducible refine Below.alloc ?_ ?_ _) | (with_reducible refine Below.setCell ?_ ?_ _) | (with_reducible refine Below.trans ?_ (Below.mono (by with_reducible assumption) ?_)) | go_size | (dsimp only; omega))), by simp⟩
  case round =>
    obtain ⟨k, a, done, rfl, rfl, hak, hk, hdk, hnn, hown, HY, HP, hB, hsz⟩ := hrel
    clear hown0
    have hai : (a : Int) ≤ (k : Int) := by omega
    have ha0 : (0 : Int) ≤ (a : Int) := by omega
    have hkn : (k : Int) ≤ (s.size : Int) := by omega
    by_cases hlt : k < s.size
    · have hki : (k : Int) < (s.size : Int) := by omega
      have hkl : k < s.data.toList.length := by rw [HLEN.out]; exact hlt
      have hel : s.data.toList[k] = s[k] := rfl
      by_cases hc : s[k] = y
      · have e1 : ((s[k].toNat : Int) == (y.toNat : Int)) = true := by rw [hc]; simp
        have HP2 : Hid ((done ++ [(s.data.toList.take k).drop a]) ++ parts y (s.data.toList.drop (k + 1)) = parts y s.data.toList) := by
          have h := HP.out
          rw [drop_split hak hkl, hel, hc, parts_cut HY.out] at h
          rw [← h]
          exact Lib.hid (by simp)
        clear hel hc
        go_wp2_with (at_builtin; refine wpList_append_own _ rfl _ _ 65 rfl w.heap.size 9 i0 (.string ⟨#[]⟩) 1 16 under_strs hi hz0 hz1 hz2 rfl (by decide) _ _ _ rfl (hown.alloc _) ⟨wr.heap.size, 0, none⟩ 1 1 [.string (s.extract a k)] rfl rfl (cell_one_new _ _ _) (fun x hx => by simp at hx; subst hx; rfl) (by unfold maxLen; omega) (by omega) (by simp; omega) ?_; intro v' w3 hown3 hgrow3 hnil3)
        have hB3 : Below w.heap.size w w3 := Below.grown (Below.alloc hB (by omega) _) hgrow3 (by simp; omega) (fun k hk => (hown.lt k hk).1)
        have hs3 := hgrow3.size
        simp at hs3
        go_roundw
        case rel => exact ⟨k + 1, k + 1, done ++ [(s.data.toList.take k).drop a], by go_num, by go_num, by omega, by omega, by simp; omega, (by intro e; exact absurd ((hnil3.mp e).2) (by decide)), (by rw [List.length_append, List.map_append]; simp only [List.map_cons, List.map_nil, ← extract_str]; exact hown3), Lib.hid (by simp), HP2, hB3, by omega⟩
        case measure => simp [intOf]; omega
      · have e1 : ((s[k].toNat : Int) == (y.toNat : Int)) = false := by
          rw [beq_eq_false_iff_ne]
          intro e
          exact hc (UInt8.toNat_inj.mp (by omega))
        have HY2 : Hid (y ∉ (s.data.toList.take (k + 1)).drop a) := by
          apply Lib.hid
          rw [take_snoc9 hkl, List.drop_append_of_le_length (by rw [List.length_take]; omega), hel]
          intro hm
          rcases List.mem_append.mp hm with h | h
          · exact HY.out h
          · exact hc (List.mem_singleton.mp h).symm
        clear hel hc
        go_wp2
        go_roundw
        case rel => exact ⟨k + 1, a, done, rfl, by go_num, by omega, by omega, by omega, hnn, hown, HY2, HP, hB, by omega⟩
        case measure => simp [intOf]; omega
    · obtain rfl : k = s.size := by omega
      have hall : s.data.toList.take s.size = s.data.toList := List.take_of_length_le (by rw [HLEN.out]; exact Nat.le_refl _)
      have HP2 : Hid (parts y s.data.toList = done ++ [(s.data.toList.take s.size).drop a]) := by
        have h := HP.out
        have hy := HY.out
        rw [hall] at hy
        rw [parts_none hy] at h
        rw [hall]
        exact Lib.hid h.symm
      clear hall
      go_wp2_with (at_builtin; refine wpList_append_own _ rfl _ _ 65 rfl w.heap.size 9 i0 (.string ⟨#[]⟩) 1 16 under_strs hi hz0 hz1 hz2 rfl (by decide) _ _ _ rfl (hown.alloc _) ⟨wr.heap.size, 0, none⟩ 1 1 [.string (s.extract a s.size)] rfl rfl (cell_one_new _ _ _) (fun x hx => by simp at hx; subst hx; rfl) (by unfold maxLen; omega) (by omega) (by simp; omega) ?_; intro v' w3 hown3 hgrow3 hnil3)
      have hB3 : Below w.heap.size w w3 := Below.grown (Below.alloc hB (by omega) _) hgrow3 (by simp; omega) (fun k hk => (hown.lt k hk).1)
      have hc := @World.ownsRow.cells w3 w.heap.size 9 1 v' _ _ hown3
      have hlt := hown3.lt
      rcases hown3.2 with ⟨h1, h2⟩ | ⟨g, cap, cur, hv, hbg, hg, h3, h4, h5, h6⟩
      · exact absurd (hnil3.mp h1).2 (by decide)
      subst hv
      have hgl : g < w3.heap.size := (hlt g rfl).2
      have HC : Hid (∀ (j : Nat) p, (parts y s.data.toList)[j]? = some p → w3.cell? ⟨g, 0 + j, none⟩ = some (str p)) := by
        apply Lib.hid
        intro j p hj
        rw [HP2.out] at hj
        have h0 : (done.map str ++ [Value.string (s.extract a s.size)])[j]? = some (str p) := by
          rw [extract_str, ← List.map_singleton (f := str), ← List.map_append, List.getElem?_map, hj]; rfl
        have := hc (g := g) rfl j _ h0
        by_cases hj0 : j = 0
        · subst hj0; simpa [Addr.add] using this
        · simpa [Addr.add, hj0] using this
      have HN : Hid (done.length + 1 = (parts y s.data.toList).length) := Lib.hid (by rw [HP2.out]; simp)
      clear hc hlt hown3 h6 HP HP2 HY
      go_wp2
      go_returns
      exact ⟨g, cap, by rw [← HN.out]; rfl, hbg, hgl, HC, hB3⟩
end Go.Proofs.YtagjgpbcpjcceaaDoor
