/- Texts of numbers: joined. -/
import Derived.Test.YtagjgpbcpjcceaaDoorTA
import Derived.Test.YtagjgpbcpjcceaaDoorC
import Derived.Test.YtagjgpbcpjcceaaDoorAD
import Derived.Test.YtagjgpbcpjcceaaDoorSH
import Derived.Lib.AppendIntMem
import Derived.Lib.LaidU8
import Derived.Lib.LaidTab
namespace Go.Proofs.YtagjgpbcpjcceaaDoor
open Go.RowKit
set_option linter.unusedVariables false
set_option linter.unusedSimpArgs false
theorem tabIs_of_reads {P : Program} {W : World} {name : String} {k : IntKind} {zs : List Int} {g : Nat} {t e : TypeId} {n : Nat}
    (hg : P.globalNamed name = some g) (hty : (P.globals[g]?).map (·.type) = some t) (ht : P.underlying t = some (.array n e)) (he : P.underlying e = some (.int k)) (hce : P.cellsOf e = 1) (hct : P.cellsOf t = n)
    (h : Lib.VarReads P W name (Lib.tabData k zs)) : Lib.TabIs P W name k zs := by
  obtain ⟨g', t', cs, fuel, p, hg', ht', hvar, hd⟩ := h
  obtain rfl := Option.some.inj (hg.symm.trans hg')
  obtain rfl := Option.some.inj (hty.symm.trans ht')
  unfold Lib.TabIs
  rw [hvar, ← Lib.cells_of_tab ht he hce hct hd]
theorem own_blT {w w' : World} {base n size : Nat} {e : TypeId} {v : Value} {xs : List Value} (h : w.ownsRow base e size v n xs) (hb : Below w.heap.size w w') : w'.ownsRow base e size v n xs := by
  have hlt := h.lt
  obtain ⟨h1, h2⟩ := h
  refine ⟨h1, h2.imp id (fun ⟨g, cap, cur, h1, h2, h3, h4⟩ => ⟨g, cap, cur, h1, h2, ?_, h4⟩)⟩
  rw [hb.block g (by have := (hlt g (by rw [h1]; rfl)).2; omega)]; exact h3
theorem under_strs : Tryd.prog.underlying 65 = some (.slice 9) := by kernel_rfl
theorem info_str : (Tryd.prog.info? 9).map (fun i => (i.zero, i.size, i.bytes)) = some (some (.string ⟨#[]⟩), 1, 16) := by kernel_rfl
/-- the text of a number -/
def txt (z : Int) : ByteArray := ⟨(Lib.itoa z).toArray⟩
def txts (zs : List Int) : List Value := zs.map fun z => Value.string (txt z)
theorem itoa_len {z : Int} (h0 : -1000000000 ≤ z) (h1 : z ≤ 1000000000) : (Lib.itoa z).length ≤ 21 := by
  unfold Lib.itoa
  split
  · have := dec_len_le z.natAbs (by omega); simp; omega
  · have := dec_len_le z.toNat (by omega); omega
/-- the text of some numbers -/
def joinT (zs : List Int) (b : UInt8) : List UInt8 := Lib.join (zs.map Lib.itoa) [b]
theorem joinT_len {zs : List Int} {b : UInt8} (h : ∀ z ∈ zs, -1000000000 ≤ z ∧ z ≤ 1000000000) : (joinT zs b).length ≤ 22 * zs.length := by
  cases zs with
  | nil => simp [joinT, Lib.join_nil]
  | cons z r =>
    have hz := h z (by simp)
    have h1 := itoa_len hz.1 hz.2
    have h2 : ∀ r : List Int, (∀ z ∈ r, -1000000000 ≤ z ∧ z ≤ 1000000000) → (Lib.joinTail [b] (r.map Lib.itoa)).length ≤ 22 * r.length := by
      intro r hr
      induction r with
      | nil => simp [Lib.joinTail]
      | cons y r ih =>
        have hy := hr y (by simp)
        have := itoa_len hy.1 hy.2
        have := ih (fun z hz => hr z (by simp [hz]))
        simp only [Lib.joinTail, List.map_cons, List.flatten_cons, List.length_append, List.length_cons, List.length_nil] at *
        omega
    have h3 := h2 r (fun z hz => h z (by simp [hz]))
    simp only [joinT, List.map_cons, Lib.join_cons, List.length_append, List.length_cons] at *
    omega
set_option maxRecDepth 100000 in
set_option maxHeartbeats 4000000 in
theorem joined_c (b n c : Nat) (zs : List Int) (y : UInt8) (w : World) (hb : b < w.heap.size) (HR : Hid (∀ k, k < zs.length → w.cell? ⟨b, 0 + k, none⟩ = some (.int .i64 (zs.getD k 0)))) (HL : Hid (zs.length = n)) (hn0 : 1 ≤ n) (hn : n ≤ 1000) (HE : Hid (∀ z ∈ zs, -1000000000 ≤ z ∧ z ≤ 1000000000))
    (HT : Hid (Lib.TabBelow Tryd.prog w.heap.size w "internal/strconv.uint64pow10" .u64 Lib.pow10Tab)) :
    Calls Tryd.prog 28 #[.slice (some ⟨b, 0, none⟩) n c, .string ⟨#[y]⟩] w fun e w' => e = .returned (.string ⟨(joinT zs y).toArray⟩) ∧ Below w.heap.size w w' := by
  obtain ⟨i0, hi, hz0, hz1, hz2⟩ := info_parts info_str
  have hown0 := own_new w w.heap.size 9 1 (Nat.le_refl _)
  go_enter Tryd.func28, Tryd.ntmps28
  go_wp2
  go_loopw [5, 11] (fun v i wr => ∃ (k : Nat), i = .int .i64 k ∧ k ≤ n ∧ v ≠ .slice none 0 0 ∧ wr.ownsRow w.heap.size 9 1 v k (txts (zs.take k)) ∧ Below w.heap.size w wr ∧ w.heap.size < wr.heap.size) (fun v i wr => n - (intOf i).toNat)
  case atStart => exact ⟨0, rfl, by omega, by simp, by simpa [txts] using hown0, (by repeat' (first | (with_reducible exact Below.refl _ _) | (with_reducible assumption) | (with_reducible refine below_drewN ?_ _) | (with_reducible refine Below.drew ?_) | (with_reducible refine Below.alloc ?_ ?_ _) | (with_reducible refine Below.setCell ?_ ?_ _) | (with_reducible refine Below.trans ?_ (Below.mono (by with_reducible assumption) ?_)) | go_size | (dsimp only; omega))), by simp⟩
  case round =>
    obtain ⟨k, rfl, hk, hnn, hown, hB, hsz⟩ := hrel
    clear hown0
    by_cases hlt : k < n
    · have hkn : (k : Int) < (n : Int) := by omega
      have hlen : k < zs.length := by rw [HL.out]; exact hlt
      have q1 : wr.cell? ⟨b, k, none⟩ = some (.int .i64 (zs.getD k 0)) := by
        rw [hB.cell (p := ⟨b, k, none⟩) hb]; have := HR.out k hlen; simpa only [Nat.zero_add] using this
      have hz := HE.out (zs.getD k 0) (by simp [List.getD, List.getElem?_eq_getElem hlen])
      have htk : txts (zs.take (k + 1)) = txts (zs.take k) ++ [Value.string (txt (zs.getD k 0))] := by
        rw [List.take_succ_eq_append_getElem hlen]; simp only [txts, List.map_append, List.map_cons, List.map_nil, List.getD, List.getElem?_eq_getElem hlen, Option.getD_some]
      have HTK := Lib.hid htk
      generalize zs.getD k 0 = z at *
      clear htk
      have HTW := Lib.hid (HT.out.on hB).here
      go_wp2_with fail
      refine (Tryd.strconv_FormatInt_10 z (by omega) (by omega) _ HTW.out).mono ?_
      rintro e w2 ⟨rfl, kk, os, hgr⟩
      have b2 : Below wr.heap.size wr w2 := by rw [hgr]; exact Lib.below_grow _ _ (Nat.le_refl _) _ _
      clear hgr
      have hown2 := own_blT hown b2
      have hB2 : Below w.heap.size w w2 := Below.trans hB (Below.mono b2 (by omega))
      have hs2 := b2.size
      clear hown hB b2
      rw [show (⟨(Lib.itoa z).toArray⟩ : ByteArray) = txt z from rfl]
      go_wp2_with (at_builtin; refine wpList_append_own _ rfl _ _ 65 rfl w.heap.size 9 i0 (.string ⟨#[]⟩) 1 16 under_strs hi hz0 hz1 hz2 rfl (by decide) _ _ _ rfl (hown2.alloc _) ⟨w2.heap.size, 0, none⟩ 1 1 [.string (txt z)] rfl rfl (cell_one_new _ _ _) (fun x hx => by simp at hx; subst hx; rfl) (by unfold maxLen; omega) (by omega) (by simp; omega) ?_; intro v' w3 hown3 hgrow3 hnil3)
      have hB3 : Below w.heap.size w w3 := Below.grown (Below.alloc hB2 (by omega) _) hgrow3 (by simp; omega) (fun k hk => (hown2.lt k hk).1)
      have hs3 := hgrow3.size
      simp at hs3
      go_roundw
      case rel => exact ⟨k + 1, by go_num, by omega, (by intro e; exact absurd ((hnil3.mp e).2) (by decide)), (by rw [HTK.out]; exact hown3), hB3, by omega⟩
      case measure => simp [intOf]; omega
    · obtain rfl : k = n := by omega
      rw [List.take_of_length_le (by rw [HL.out]; exact Nat.le_refl _)] at hown
      have hc := @World.ownsRow.cells wr w.heap.size 9 1 _ k _ hown
      rcases hown.2 with ⟨h1, h2⟩ | ⟨g, cap, cur, hv, hbg, hg, h3, h4, h5, h6⟩
      · exact absurd h1 hnn
      subst hv
      have hgl : g < wr.heap.size := (hown.lt g rfl).2
      have hcells : ∀ (j : Nat) x, (zs.map txt)[j]? = some x → wr.cell? ⟨g, 0 + j, none⟩ = some (.string x) := by
        intro j x hj
        have h0 : (txts zs)[j]? = some (.string x) := by
          rw [List.getElem?_map] at hj
          obtain ⟨z, hz, rfl⟩ := Option.map_eq_some_iff.mp hj
          simp [txts, hz]
        have := hc (g := g) rfl j _ h0
        by_cases hj0 : j = 0
        · subst hj0; simpa [Addr.add] using this
        · simpa [Addr.add, hj0] using this
      have hlenj : (zs.map txt).length = k := by simp [HL.out]
      have hjm : ((zs.map txt).map (·.data.toList)) = zs.map Lib.itoa := by simp [txt, Function.comp_def]
      have hjl := joinT_len (b := y) HE.out
      rw [HL.out] at hjl
      have K := Tryd.strings_Join g 0 cap (zs.map txt) ⟨#[y]⟩ wr hcells hgl (by rw [hlenj]; omega) (by rw [hlenj]; exact h3) (by rw [hjm]; show (joinT zs y).length ≤ _; omega)
      rw [hlenj, hjm] at K
      have HK := Lib.hid K
      clear hc hcells K hown h6 hjm
      go_wp2_with fail
      refine HK.out.mono ?_
      rintro e w2 ⟨rfl, b2⟩
      go_wp2
      go_returns
      exact ⟨rfl, Below.trans hB (Below.mono b2 (by omega))⟩
end Go.Proofs.YtagjgpbcpjcceaaDoor
