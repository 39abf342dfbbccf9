/- Numbers in decimal: the reference's numerals. -/
import Derived.Test.YtlkhhpckgcdeeaaGreatDoorW
import Derived.Lib.ItoaNum
import Derived.Lib.Join
import Derived.IntWalk
import Derived.Laws.IdiomStrings
import Derived.Deep.RegionHeld3
import Derived.Test.YtlkhhpckgcdeeaaGreatDoorC
import Derived.Test.YtlkhhpckgcdeeaaGreatDoorAD
import Derived.Test.YtlkhhpckgcdeeaaGreatDoorSH
import Derived.Lib.AppendIntMem
import Derived.Lib.LaidU8
import Derived.Lib.LaidTab
namespace Go.Proofs.YtlkhhpckgcdeeaaGreatDoor
open Go.RowKit
set_option linter.unusedVariables false
set_option linter.unusedSimpArgs false
theorem dec_small {u : Nat} (h : u < 10) : Lib.decDigits u = [UInt8.ofNat (48 + u)] := Lib.decDigits_one h
theorem dec_big {u : Nat} (h : ¬ u < 10) : Lib.decDigits u = Lib.decDigits (u / 10) ++ [UInt8.ofNat (48 + u % 10)] := by rw [Lib.decDigits, dif_neg h]
theorem dec_len : ∀ k u : Nat, u < 10 ^ (k + 1) → (Lib.decDigits u).length ≤ k + 1
  | 0, u, h => by rw [dec_small (by simpa using h)]; simp
  | k + 1, u, h => by
    by_cases h10 : u < 10
    · rw [dec_small h10]; simp
    · rw [dec_big h10]
      have := dec_len k (u / 10) (by rw [Nat.pow_succ] at h; omega)
      simp; omega
theorem dec_len_le (u : Nat) (h : u ≤ 1000000000) : (Lib.decDigits u).length ≤ 20 := by
  have := dec_len 9 u (by omega)
  omega
theorem app_one (ds : List UInt8) (b : UInt8) : ((⟨ds.toArray⟩ : ByteArray) ++ (⟨#[b]⟩ : ByteArray)) = ⟨(ds ++ [b]).toArray⟩ := by
  apply ByteArray.ext
  simp [ByteArray.data_append]
theorem one_app (ds : List UInt8) (b : UInt8) : ((⟨#[b]⟩ : ByteArray) ++ (⟨ds.toArray⟩ : ByteArray)) = ⟨(b :: ds).toArray⟩ := by
  apply ByteArray.ext
  simp [ByteArray.data_append]
theorem conv_one (W : World) (g : Nat) (b : UInt8) (v : Int) (hv : (b.toNat : Int) = v) (h : W.cell? ⟨g, 0, none⟩ = some (.int .u8 v)) :
    (convert 22 9 (.slice (some ⟨g, 0, none⟩) 1 1)).run Tryz.prog W = .ok (.string ⟨#[b]⟩) W := by
  refine run_convert_bytes_back (P := Tryz.prog) W 22 9 5 ⟨g, 0, none⟩ 1 [b] (by kernel_rfl) Tryz.underlying5 Tryz.underlying9 ?_
  intro j hj
  have hj0 : j = 0 := by simp at hj; omega
  subst hj0
  simp only [List.getElem_cons_zero, hv]
  have ad : (⟨g, 0, none⟩ : Addr).add 0 = ⟨g, 0, none⟩ := by simp [Addr.add]
  rw [ad, h]
theorem conv_new (W : World) (b : UInt8) (v : Int) (hv : (b.toNat : Int) = v) :
    (convert 22 9 (.slice (some ⟨W.heap.size, 0, none⟩) 1 1)).run Tryz.prog (W.alloc (Obj.cells #[.int .u8 v] 5)) = .ok (.string ⟨#[b]⟩) (W.alloc (Obj.cells #[.int .u8 v] 5)) :=
  conv_one _ _ b v hv (by go_cell)
theorem digit_at (d : Nat) (h : d < 10) : ∃ b : UInt8, UInt8.ofNat (48 + d) = b ∧ (b.toNat : Int) = 48 + (d : Int) := ⟨_, rfl, by simp [UInt8.toNat_ofNat']; omega⟩
set_option maxRecDepth 100000 in
set_option maxHeartbeats 1000000 in
theorem l01Dec_digit (u : Nat) (w : World) (h : u < 10) :
    Calls Tryz.prog 126 #[.int .i64 u] w fun e w' => e = .returned (.string ⟨(Lib.decDigits u).toArray⟩) ∧ Below w.heap.size w w' := by
  have e0 : ¬ ((u : Int) < 0) := by omega
  have e1 : (u : Int) < 10 := by omega
  have hd := dec_small h
  obtain ⟨b, hb, hv⟩ := digit_at u h
  rw [hb] at hd
  have HD := Lib.hid hd
  have hc := conv_new w b _ hv
  clear hd hb
  go_enter Tryz.func126, Tryz.ntmps126
  go_wp2
  go_returns
  rw [HD.out]
  exact ⟨rfl, (by repeat' (first | (with_reducible exact Below.refl _ _) | (with_reducible assumption) | (with_reducible refine below_drewN ?_ _) | (with_reducible refine Below.drew ?_) | (with_reducible refine Below.alloc ?_ ?_ _) | (with_reducible refine Below.setCell ?_ ?_ _) | (with_reducible refine Below.trans ?_ (Below.mono (by with_reducible assumption) ?_)) | go_size | (dsimp only; omega)))⟩
set_option maxRecDepth 100000 in
set_option maxHeartbeats 20000000 in
theorem l01Dec_more (u : Nat) (w : World) (hu : u ≤ 1000000000) (h : ¬ u < 10) (ih : Hid (∀ w : World, Calls Tryz.prog 126 #[.int .i64 ((u / 10 : Nat) : Int)] w fun e w' => e = .returned (.string ⟨(Lib.decDigits (u / 10)).toArray⟩) ∧ Below w.heap.size w w')) :
    Calls Tryz.prog 126 #[.int .i64 u] w fun e w' => e = .returned (.string ⟨(Lib.decDigits u).toArray⟩) ∧ Below w.heap.size w w' := by
  have e0 : ¬ ((u : Int) < 0) := by omega
  have e1 : ¬ ((u : Int) < 10) := by omega
  have hd := dec_big h
  have hq : (u : Int) / 10 = ((u / 10 : Nat) : Int) := by omega
  have hr : (u : Int) % 10 = ((u % 10 : Nat) : Int) := by omega
  obtain ⟨b, hb, hv⟩ := digit_at (u % 10) (by omega)
  rw [hb] at hd
  have HD := Lib.hid hd
  clear hd hb
  have hlen : (Lib.decDigits (u / 10)).length ≤ 20 := dec_len_le _ (by omega)
  generalize hds : Lib.decDigits (u / 10) = ds at *
  generalize u / 10 = q at *
  generalize u % 10 = r at *
  have hfit : ¬ (9223372036854775807 < ds.length + 1) := by omega
  have t1 : (u : Int).tdiv 10 = (q : Int) := by rw [Int.tdiv_eq_ediv_of_nonneg (by omega)]; exact hq
  have t2 : (u : Int).tmod 10 = (r : Int) := by rw [Int.tmod_eq_emod_of_nonneg (by omega)]; exact hr
  have wf1 : IntKind.i64.wrap (q : Int) = q := IntWalk.i64_in _ (by omega)
  have wf2 : IntKind.i64.wrap (r : Int) = r := IntWalk.i64_in _ (by omega)
  have wf3 : IntKind.i64.wrap (48 + (r : Int)) = 48 + (r : Int) := IntWalk.i64_in _ (by omega)
  have wf4 : IntKind.u8.wrap (48 + (r : Int)) = 48 + (r : Int) := by simp [IntKind.wrap, IntKind.bits, IntKind.signed]; omega
  have hcn := fun W : World => conv_new W b _ hv
  have hcd := conv_one (w.drew.alloc (Obj.cells #[.int .u8 (48 + (r : Int))] 5)) w.heap.size b _ hv (by go_cell)
  have hck : ∀ w2, Below (w.drew.alloc (Obj.cells #[.int .u8 (48 + (r : Int))] 5)).heap.size (w.drew.alloc (Obj.cells #[.int .u8 (48 + (r : Int))] 5)) w2 → (convert 22 9 (.slice (some ⟨w.heap.size, 0, none⟩) 1 1)).run Tryz.prog w2 = .ok (.string ⟨#[b]⟩) w2 := by
    intro w2 hb
    refine conv_one w2 w.heap.size b _ hv ?_
    rw [hb.cell (p := ⟨w.heap.size, 0, none⟩) (by simp)]
    go_cell
  have hcd2 := conv_one (w.alloc (Obj.cells #[.int .u8 (48 + (r : Int))] 5)).drew w.heap.size b _ hv (by go_cell)
  have hck2 : ∀ w2, Below (w.alloc (Obj.cells #[.int .u8 (48 + (r : Int))] 5)).drew.heap.size (w.alloc (Obj.cells #[.int .u8 (48 + (r : Int))] 5)).drew w2 → (convert 22 9 (.slice (some ⟨w.heap.size, 0, none⟩) 1 1)).run Tryz.prog w2 = .ok (.string ⟨#[b]⟩) w2 := by
    intro w2 hb
    refine conv_one w2 w.heap.size b _ hv ?_
    rw [hb.cell (p := ⟨w.heap.size, 0, none⟩) (by simp)]
    go_cell
  clear hds
  go_enter Tryz.func126, Tryz.ntmps126
  go_wp2
  go_region_with ((go_at_call 126; refine (ih.out _).mono ?_; rintro e w2 ⟨rfl, hb⟩; have zz := hb.size; (try simp only [World.size_alloc, World.size_drew] at zz); (try (have hc2 := hck _ hb)); (try (have hc3 := hck2 _ hb))))

  all_goals (try go_split_ands)
  all_goals go_wp2
  all_goals go_returns
  all_goals rw [HD.out]
  all_goals exact ⟨congrArg Ending.returned (congrArg Value.string (app_one ds b)), (by repeat' (first | (with_reducible exact Below.refl _ _) | (with_reducible assumption) | (with_reducible refine below_drewN ?_ _) | (with_reducible refine Below.drew ?_) | (with_reducible refine Below.alloc ?_ ?_ _) | (with_reducible refine Below.setCell ?_ ?_ _) | (with_reducible refine Below.trans ?_ (Below.mono (by with_reducible assumption) ?_)) | go_size | (dsimp only; omega)))⟩
theorem l01Dec_all : ∀ (n u : Nat), u ≤ n → u ≤ 1000000000 → ∀ w : World, Calls Tryz.prog 126 #[.int .i64 (u : Int)] w fun e w' => e = .returned (.string ⟨(Lib.decDigits u).toArray⟩) ∧ Below w.heap.size w w' := by
  intro n
  induction n with
  | zero => intro u hu hb w; exact l01Dec_digit u w (by omega)
  | succ n ih =>
    intro u hu hb w
    by_cases h : u < 10
    · exact l01Dec_digit u w h
    · exact l01Dec_more u w hb h (Lib.hid (ih (u / 10) (by omega) (by omega)))
set_option maxRecDepth 100000 in
theorem l01Dec_c (z : Int) (w : World) (h0 : -1000000000 ≤ z) (h1 : z ≤ 1000000000) :
    Calls Tryz.prog 126 #[.int .i64 z] w fun e w' => e = .returned (.string ⟨(Lib.itoa z).toArray⟩) ∧ Below w.heap.size w w' := by
  by_cases hz : z < 0
  · obtain ⟨u, rfl⟩ : ∃ u : Nat, z = -(u : Int) := ⟨z.natAbs, by omega⟩
    have hi : Lib.itoa (-(u : Int)) = 45 :: Lib.decDigits u := by
      unfold Lib.itoa
      rw [if_pos hz]
      congr 2
      omega
    have HI := Lib.hid hi
    have hl := dec_len_le u (by omega)
    have hl2 : ¬ (9223372036854775807 < 1 + (Lib.decDigits u).length) := by omega
    generalize hds : Lib.decDigits u = ds at *
    have HDS := Lib.hid hds
    clear hi hds
    go_enter Tryz.func126, Tryz.ntmps126
    go_wp2_with fail
    have K := l01Dec_all u u (Nat.le_refl _) (by omega)
    rw [HDS.out] at K
    refine (K _).mono ?_
    rintro e w2 ⟨rfl, b2⟩
    go_wp2
    go_returns
    rw [HI.out]
    exact ⟨congrArg Ending.returned (congrArg Value.string (one_app ds 45)), (by repeat' (first | (with_reducible exact Below.refl _ _) | (with_reducible assumption) | (with_reducible refine below_drewN ?_ _) | (with_reducible refine Below.drew ?_) | (with_reducible refine Below.alloc ?_ ?_ _) | (with_reducible refine Below.setCell ?_ ?_ _) | (with_reducible refine Below.trans ?_ (Below.mono (by with_reducible assumption) ?_)) | go_size | (dsimp only; omega)))⟩
  · obtain ⟨u, rfl⟩ : ∃ u : Nat, z = (u : Int) := ⟨z.toNat, by omega⟩
    have hi : Lib.itoa (u : Int) = Lib.decDigits u := by
      unfold Lib.itoa
      rw [if_neg hz]
      rfl
    rw [hi]
    exact l01Dec_all u u (Nat.le_refl _) (by omega) w
end Go.Proofs.YtlkhhpckgcdeeaaGreatDoor

/- Texts of numbers: joined. -/
namespace Go.Proofs.YtlkhhpckgcdeeaaGreatDoor
open Go.RowKit
set_option linter.unusedVariables false
set_option linter.unusedSimpArgs false
theorem tabIs_of_reads {P : Program} {W : World} {name : String} {k : IntKind} {zs : List Int} {g : Nat} {t e : TypeId} {n : Nat}
    (hg : P.globalNamed name = some g) (hty : (P.globals[g]?).map (·.type) = some t) (ht : P.underlying t = some (.array n e)) (he : P.underlying e = some (.int k)) (hce : P.cellsOf e = 1) (hct : P.cellsOf t = n)
    (h : Lib.VarReads P W name (Lib.tabData k zs)) : Lib.TabIs P W name k zs := by
  obtain ⟨g', t', cs, fuel, p, hg', ht', hvar, hd⟩ := h
  obtain rfl := Option.some.inj (hg.symm.trans hg')
  obtain rfl := Option.some.inj (hty.symm.trans ht')
  unfold Lib.TabIs
  rw [hvar, ← Lib.cells_of_tab ht he hce hct hd]
theorem own_blT {w w' : World} {base n size : Nat} {e : TypeId} {v : Value} {xs : List Value} (h : w.ownsRow base e size v n xs) (hb : Below w.heap.size w w') : w'.ownsRow base e size v n xs := by
  have hlt := h.lt
  obtain ⟨h1, h2⟩ := h
  refine ⟨h1, h2.imp id (fun ⟨g, cap, cur, h1, h2, h3, h4⟩ => ⟨g, cap, cur, h1, h2, ?_, h4⟩)⟩
  rw [hb.block g (by have := (hlt g (by rw [h1]; rfl)).2; omega)]; exact h3
theorem under_strs : Tryz.prog.underlying 104 = some (.slice 9) := by kernel_rfl
theorem info_str : (Tryz.prog.info? 9).map (fun i => (i.zero, i.size, i.bytes)) = some (some (.string ⟨#[]⟩), 1, 16) := by kernel_rfl
/-- the text of a number -/
def txt (z : Int) : ByteArray := ⟨(Lib.itoa z).toArray⟩
def txts (zs : List Int) : List Value := zs.map fun z => Value.string (txt z)
theorem itoa_len {z : Int} (h0 : -1000000000 ≤ z) (h1 : z ≤ 1000000000) : (Lib.itoa z).length ≤ 21 := by
  unfold Lib.itoa
  split
  · have := dec_len_le z.natAbs (by omega); simp; omega
  · have := dec_len_le z.toNat (by omega); omega
/-- the text of some numbers -/
def joinT (zs : List Int) (b : UInt8) : List UInt8 := Lib.join (zs.map Lib.itoa) [b]
theorem joinT_len {zs : List Int} {b : UInt8} (h : ∀ z ∈ zs, -1000000000 ≤ z ∧ z ≤ 1000000000) : (joinT zs b).length ≤ 22 * zs.length := by
  cases zs with
  | nil => simp [joinT, Lib.join_nil]
  | cons z r =>
    have hz := h z (by simp)
    have h1 := itoa_len hz.1 hz.2
    have h2 : ∀ r : List Int, (∀ z ∈ r, -1000000000 ≤ z ∧ z ≤ 1000000000) → (Lib.joinTail [b] (r.map Lib.itoa)).length ≤ 22 * r.length := by
      intro r hr
      induction r with
      | nil => simp [Lib.joinTail]
      | cons y r ih =>
        have hy := hr y (by simp)
        have := itoa_len hy.1 hy.2
        have := ih (fun z hz => hr z (by simp [hz]))
        simp only [Lib.joinTail, List.map_cons, List.flatten_cons, List.length_append, List.length_cons, List.length_nil] at *
        omega
    have h3 := h2 r (fun z hz => h z (by simp [hz]))
    simp only [joinT, List.map_cons, Lib.join_cons, List.length_append, List.length_cons] at *
    omega
set_option maxRecDepth 100000 in
set_option maxHeartbeats 4000000 in
theorem joined_c (b n c : Nat) (zs : List Int) (y : UInt8) (w : World) (hb : b < w.heap.size) (HR : Hid (∀ k, k < zs.length → w.cell? ⟨b, 0 + k, none⟩ = some (.int .i64 (zs.getD k 0)))) (HL : Hid (zs.length = n)) (hn0 : 1 ≤ n) (hn : n ≤ 1000) (HE : Hid (∀ z ∈ zs, -1000000000 ≤ z ∧ z ≤ 1000000000))
    (HT : Hid (Lib.TabBelow Tryz.prog w.heap.size w "internal/strconv.uint64pow10" .u64 Lib.pow10Tab)) :
    Calls Tryz.prog 74 #[.slice (some ⟨b, 0, none⟩) n c, .string ⟨#[y]⟩] w fun e w' => e = .returned (.string ⟨(joinT zs y).toArray⟩) ∧ Below w.heap.size w w' := by
  obtain ⟨i0, hi, hz0, hz1, hz2⟩ := info_parts info_str
  have hown0 := own_new w w.heap.size 9 1 (Nat.le_refl _)
  go_enter Tryz.func74, Tryz.ntmps74
  go_wp2
  go_loopw [5, 11] (fun v i wr => ∃ (k : Nat), i = .int .i64 k ∧ k ≤ n ∧ v ≠ .slice none 0 0 ∧ wr.ownsRow w.heap.size 9 1 v k (txts (zs.take k)) ∧ Below w.heap.size w wr ∧ w.heap.size < wr.heap.size) (fun v i wr => n - (intOf i).toNat)
  case atStart => exact ⟨0, rfl, by omega, by simp, by simpa [txts] using hown0, (by repeat' (first | (with_reducible exact Below.refl _ _) | (with_reducible assumption) | (with_reducible refine below_drewN ?_ _) | (with_reducible refine Below.drew ?_) | (with_reducible refine Below.alloc ?_ ?_ _) | (with_reducible refine Below.setCell ?_ ?_ _) | (with_reducible refine Below.trans ?_ (Below.mono (by with_reducible assumption) ?_)) | go_size | (dsimp only; omega))), by simp⟩
  case round =>
    obtain ⟨k, rfl, hk, hnn, hown, hB, hsz⟩ := hrel
    clear hown0
    by_cases hlt : k < n
    · have hkn : (k : Int) < (n : Int) := by omega
      have hlen : k < zs.length := by rw [HL.out]; exact hlt
      have q1 : wr.cell? ⟨b, k, none⟩ = some (.int .i64 (zs.getD k 0)) := by
        rw [hB.cell (p := ⟨b, k, none⟩) hb]; have := HR.out k hlen; simpa only [Nat.zero_add] using this
      have hz := HE.out (zs.getD k 0) (by simp [List.getD, List.getElem?_eq_getElem hlen])
      have htk : txts (zs.take (k + 1)) = txts (zs.take k) ++ [Value.string (txt (zs.getD k 0))] := by
        rw [List.take_succ_eq_append_getElem hlen]; simp only [txts, List.map_append, List.map_cons, List.map_nil, List.getD, List.getElem?_eq_getElem hlen, Option.getD_some]
      have HTK := Lib.hid htk
      generalize zs.getD k 0 = z at *
      clear htk
      have HTW := Lib.hid (HT.out.on hB).here
      go_wp2_with fail
      refine (Tryz.strconv_FormatInt_10 z (by omega) (by omega) _ HTW.out).mono ?_
      rintro e w2 ⟨rfl, kk, os, hgr⟩
      have b2 : Below wr.heap.size wr w2 := by rw [hgr]; exact Lib.below_grow _ _ (Nat.le_refl _) _ _
      clear hgr
      have hown2 := own_blT hown b2
      have hB2 : Below w.heap.size w w2 := Below.trans hB (Below.mono b2 (by omega))
      have hs2 := b2.size
      clear hown hB b2
      rw [show (⟨(Lib.itoa z).toArray⟩ : ByteArray) = txt z from rfl]
      go_wp2_with (at_builtin; refine wpList_append_own _ rfl _ _ 104 rfl w.heap.size 9 i0 (.string ⟨#[]⟩) 1 16 under_strs hi hz0 hz1 hz2 rfl (by decide) _ _ _ rfl (hown2.alloc _) ⟨w2.heap.size, 0, none⟩ 1 1 [.string (txt z)] rfl rfl (cell_one_new _ _ _) (fun x hx => by simp at hx; subst hx; rfl) (by unfold maxLen; omega) (by omega) (by simp; omega) ?_; intro v' w3 hown3 hgrow3 hnil3)
      have hB3 : Below w.heap.size w w3 := Below.grown (Below.alloc hB2 (by omega) _) hgrow3 (by simp; omega) (fun k hk => (hown2.lt k hk).1)
      have hs3 := hgrow3.size
      simp at hs3
      go_roundw
      case rel => exact ⟨k + 1, by go_num, by omega, (by intro e; exact absurd ((hnil3.mp e).2) (by decide)), (by rw [HTK.out]; exact hown3), hB3, by omega⟩
      case measure => simp [intOf]; omega
    · obtain rfl : k = n := by omega
      rw [List.take_of_length_le (by rw [HL.out]; exact Nat.le_refl _)] at hown
      have hc := @World.ownsRow.cells wr w.heap.size 9 1 _ k _ hown
      rcases hown.2 with ⟨h1, h2⟩ | ⟨g, cap, cur, hv, hbg, hg, h3, h4, h5, h6⟩
      · exact absurd h1 hnn
      subst hv
      have hgl : g < wr.heap.size := (hown.lt g rfl).2
      have hcells : ∀ (j : Nat) x, (zs.map txt)[j]? = some x → wr.cell? ⟨g, 0 + j, none⟩ = some (.string x) := by
        intro j x hj
        have h0 : (txts zs)[j]? = some (.string x) := by
          rw [List.getElem?_map] at hj
          obtain ⟨z, hz, rfl⟩ := Option.map_eq_some_iff.mp hj
          simp [txts, hz]
        have := hc (g := g) rfl j _ h0
        by_cases hj0 : j = 0
        · subst hj0; simpa [Addr.add] using this
        · simpa [Addr.add, hj0] using this
      have hlenj : (zs.map txt).length = k := by simp [HL.out]
      have hjm : ((zs.map txt).map (·.data.toList)) = zs.map Lib.itoa := by simp [txt, Function.comp_def]
      have hjl := joinT_len (b := y) HE.out
      rw [HL.out] at hjl
      have K := Tryz.strings_Join g 0 cap (zs.map txt) ⟨#[y]⟩ wr hcells hgl (by rw [hlenj]; omega) (by rw [hlenj]; exact h3) (by rw [hjm]; show (joinT zs y).length ≤ _; omega)
      rw [hlenj, hjm] at K
      have HK := Lib.hid K
      clear hc hcells K hown h6 hjm
      go_wp2_with fail
      refine HK.out.mono ?_
      rintro e w2 ⟨rfl, b2⟩
      go_wp2
      go_returns
      exact ⟨rfl, Below.trans hB (Below.mono b2 (by omega))⟩
end Go.Proofs.YtlkhhpckgcdeeaaGreatDoor
