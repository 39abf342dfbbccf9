/- Numbers in decimal: the reference's numerals. -/
import Derived.Test.YtagjgpbcpjcceaaDoorW
import Derived.Lib.ItoaNum
import Derived.Lib.Join
import Derived.IntWalk
import Derived.Laws.IdiomStrings
import Derived.Deep.RegionHeld3
namespace Go.Proofs.YtagjgpbcpjcceaaDoor
open Go.RowKit
set_option linter.unusedVariables false
set_option linter.unusedSimpArgs false
theorem dec_small {u : Nat} (h : u < 10) : Lib.decDigits u = [UInt8.ofNat (48 + u)] := Lib.decDigits_one h
theorem dec_big {u : Nat} (h : ¬ u < 10) : Lib.decDigits u = Lib.decDigits (u / 10) ++ [UInt8.ofNat (48 + u % 10)] := by rw [Lib.decDigits, dif_neg h]
theorem dec_len : ∀ k u : Nat, u < 10 ^ (k + 1) → (Lib.decDigits u).length ≤ k + 1
  | 0, u, h => by rw [dec_small (by simpa using h)]; simp
  | k + 1, u, h => by
    by_cases h10 : u < 10
    · rw [dec_small h10]; simp
    · rw [dec_big h10]
      have := dec_len k (u / 10) (by rw [Nat.pow_succ] at h; omega)
      simp; omega
theorem dec_len_le (u : Nat) (h : u ≤ 1000000000) : (Lib.decDigits u).length ≤ 20 := by
  have := dec_len 9 u (by omega)
  omega
theorem app_one (ds : List UInt8) (b : UInt8) : ((⟨ds.toArray⟩ : ByteArray) ++ (⟨#[b]⟩ : ByteArray)) = ⟨(ds ++ [b]).toArray⟩ := by
  apply ByteArray.ext
  simp [ByteArray.data_append]
theorem one_app (ds : List UInt8) (b : UInt8) : ((⟨#[b]⟩ : ByteArray) ++ (⟨ds.toArray⟩ : ByteArray)) = ⟨(b :: ds).toArray⟩ := by
  apply ByteArray.ext
  simp [ByteArray.data_append]
theorem conv_one (W : World) (g : Nat) (b : UInt8) (v : Int) (hv : (b.toNat : Int) = v) (h : W.cell? ⟨g, 0, none⟩ = some (.int .u8 v)) :
    (convert 81 9 (.slice (some ⟨g, 0, none⟩) 1 1)).run Tryd.prog W = .ok (.string ⟨#[b]⟩) W := by
  refine run_convert_bytes_back (P := Tryd.prog) W 81 9 5 ⟨g, 0, none⟩ 1 [b] (by kernel_rfl) Tryd.underlying5 Tryd.underlying9 ?_
  intro j hj
  have hj0 : j = 0 := by simp at hj; omega
  subst hj0
  simp only [List.getElem_cons_zero, hv]
  have ad : (⟨g, 0, none⟩ : Addr).add 0 = ⟨g, 0, none⟩ := by simp [Addr.add]
  rw [ad, h]
theorem conv_new (W : World) (b : UInt8) (v : Int) (hv : (b.toNat : Int) = v) :
    (convert 81 9 (.slice (some ⟨W.heap.size, 0, none⟩) 1 1)).run Tryd.prog (W.alloc (Obj.cells #[.int .u8 v] 5)) = .ok (.string ⟨#[b]⟩) (W.alloc (Obj.cells #[.int .u8 v] 5)) :=
  conv_one _ _ b v hv (by go_cell)
theorem digit_at (d : Nat) (h : d < 10) : ∃ b : UInt8, UInt8.ofNat (48 + d) = b ∧ (b.toNat : Int) = 48 + (d : Int) := ⟨_, rfl, by simp [UInt8.toNat_ofNat']; omega⟩
set_option maxRecDepth 100000 in
set_option maxHeartbeats 1000000 in
theorem l01Dec_digit (u : Nat) (w : World) (h : u < 10) :
    Calls Tryd.prog 44 #[.int .i64 u] w fun e w' => e = .returned (.string ⟨(Lib.decDigits u).toArray⟩) ∧ Below w.heap.size w w' := by
  have e0 : ¬ ((u : Int) < 0) := by omega
  have e1 : (u : Int) < 10 := by omega
  have hd := dec_small h
  obtain ⟨b, hb, hv⟩ := digit_at u h
  rw [hb] at hd
  have HD := Lib.hid hd
  have hc := conv_new w b _ hv
  clear hd hb
  go_enter Tryd.func44, Tryd.ntmps44
  go_wp2
  go_returns
  rw [HD.out]
  exact ⟨rfl, (by repeat' (first | (with_reducible exact Below.refl _ _) | (with_reducible assumption) | (with_reducible refine below_drewN ?_ _) | (with_reducible refine Below.drew ?_) | (with_reducible refine Below.alloc ?_ ?_ _) | (with_reducible refine Below.setCell ?_ ?_ _) | (with_reducible refine Below.trans ?_ (Below.mono (by with_reducible assumption) ?_)) | go_size | (dsimp only; omega)))⟩
set_option maxRecDepth 100000 in
set_option maxHeartbeats 20000000 in
theorem l01Dec_more (u : Nat) (w : World) (hu : u ≤ 1000000000) (h : ¬ u < 10) (ih : Hid (∀ w : World, Calls Tryd.prog 44 #[.int .i64 ((u / 10 : Nat) : Int)] w fun e w' => e = .returned (.string ⟨(Lib.decDigits (u / 10)).toArray⟩) ∧ Below w.heap.size w w')) :
    Calls Tryd.prog 44 #[.int .i64 u] w fun e w' => e = .returned (.string ⟨(Lib.decDigits u).toArray⟩) ∧ Below w.heap.size w w' := by
  have e0 : ¬ ((u : Int) < 0) := by omega
  have e1 : ¬ ((u : Int) < 10) := by omega
  have hd := dec_big h
  have hq : (u : Int) / 10 = ((u / 10 : Nat) : Int) := by omega
  have hr : (u : Int) % 10 = ((u % 10 : Nat) : Int) := by omega
  obtain ⟨b, hb, hv⟩ := digit_at (u % 10) (by omega)
  rw [hb] at hd
  have HD := Lib.hid hd
  clear hd hb
  have hlen : (Lib.decDigits (u / 10)).length ≤ 20 := dec_len_le _ (by omega)
  generalize hds : Lib.decDigits (u / 10) = ds at *
  generalize u / 10 = q at *
  generalize u % 10 = r at *
  have hfit : ¬ (9223372036854775807 < ds.length + 1) := by omega
  have t1 : (u : Int).tdiv 10 = (q : Int) := by rw [Int.tdiv_eq_ediv_of_nonneg (by omega)]; exact hq
  have t2 : (u : Int).tmod 10 = (r : Int) := by rw [Int.tmod_eq_emod_of_nonneg (by omega)]; exact hr
  have wf1 : IntKind.i64.wrap (q : Int) = q := IntWalk.i64_in _ (by omega)
  have wf2 : IntKind.i64.wrap (r : Int) = r := IntWalk.i64_in _ (by omega)
  have wf3 : IntKind.i64.wrap (48 + (r : Int)) = 48 + (r : Int) := IntWalk.i64_in _ (by omega)
  have wf4 : IntKind.u8.wrap (48 + (r : Int)) = 48 + (r : Int) := by simp [IntKind.wrap, IntKind.bits, IntKind.signed]; omega
  have hcn := fun W : World => conv_new W b _ hv
  have hcd := conv_one (w.drew.alloc (Obj.cells #[.int .u8 (48 + (r : Int))] 5)) w.heap.size b _ hv (by go_cell)
  have hck : ∀ w2, Below (w.drew.alloc (Obj.cells #[.int .u8 (48 + (r : Int))] 5)).heap.size (w.drew.alloc (Obj.cells #[.int .u8 (48 + (r : Int))] 5)) w2 → (convert 81 9 (.slice (some ⟨w.heap.size, 0, none⟩) 1 1)).run Tryd.prog w2 = .ok (.string ⟨#[b]⟩) w2 := by
    intro w2 hb
    refine conv_one w2 w.heap.size b _ hv ?_
    rw [hb.cell (p := ⟨w.heap.size, 0, none⟩) (by simp)]
    go_cell
  have hcd2 := conv_one (w.alloc (Obj.cells #[.int .u8 (48 + (r : Int))] 5)).drew w.heap.size b _ hv (by go_cell)
  have hck2 : ∀ w2, Below (w.alloc (Obj.cells #[.int .u8 (48 + (r : Int))] 5)).drew.heap.size (w.alloc (Obj.cells #[.int .u8 (48 + (r : Int))] 5)).drew w2 → (convert 81 9 (.slice (some ⟨w.heap.size, 0, none⟩) 1 1)).run Tryd.prog w2 = .ok (.string ⟨#[b]⟩) w2 := by
    intro w2 hb
    refine conv_one w2 w.heap.size b _ hv ?_
    rw [hb.cell (p := ⟨w.heap.size, 0, none⟩) (by simp)]
    go_cell
  clear hds
  go_enter Tryd.func44, Tryd.ntmps44
  go_wp2
  go_region_with ((go_at_call 44; refine (ih.out _).mono ?_; rintro e w2 ⟨rfl, hb⟩; have zz := hb.size; (try simp only [World.size_alloc, World.size_drew] at zz); (try (have hc2 := hck _ hb)); (try (have hc3 := hck2 _ hb))))

  all_goals (try go_split_ands)
  all_goals go_wp2
  all_goals go_returns
  all_goals rw [HD.out]
  all_goals exact ⟨congrArg Ending.returned (congrArg Value.string (app_one ds b)), (by repeat' (first | (with_reducible exact Below.refl _ _) | (with_reducible assumption) | (with_reducible refine below_drewN ?_ _) | (with_reducible refine Below.drew ?_) | (with_reducible refine Below.alloc ?_ ?_ _) | (with_reducible refine Below.setCell ?_ ?_ _) | (with_reducible refine Below.trans ?_ (Below.mono (by with_reducible assumption) ?_)) | go_size | (dsimp only; omega)))⟩
theorem l01Dec_all : ∀ (n u : Nat), u ≤ n → u ≤ 1000000000 → ∀ w : World, Calls Tryd.prog 44 #[.int .i64 (u : Int)] w fun e w' => e = .returned (.string ⟨(Lib.decDigits u).toArray⟩) ∧ Below w.heap.size w w' := by
  intro n
  induction n with
  | zero => intro u hu hb w; exact l01Dec_digit u w (by omega)
  | succ n ih =>
    intro u hu hb w
    by_cases h : u < 10
    · exact l01Dec_digit u w h
    · exact l01Dec_more u w hb h (Lib.hid (ih (u / 10) (by omega) (by omega)))
set_option maxRecDepth 100000 in
theorem l01Dec_c (z : Int) (w : World) (h0 : -1000000000 ≤ z) (h1 : z ≤ 1000000000) :
    Calls Tryd.prog 44 #[.int .i64 z] w fun e w' => e = .returned (.string ⟨(Lib.itoa z).toArray⟩) ∧ Below w.heap.size w w' := by
  by_cases hz : z < 0
  · obtain ⟨u, rfl⟩ : ∃ u : Nat, z = -(u : Int) := ⟨z.natAbs, by omega⟩
    have hi : Lib.itoa (-(u : Int)) = 45 :: Lib.decDigits u := by
      unfold Lib.itoa
      rw [if_pos hz]
      congr 2
      omega
    have HI := Lib.hid hi
    have hl := dec_len_le u (by omega)
    have hl2 : ¬ (9223372036854775807 < 1 + (Lib.decDigits u).length) := by omega
    generalize hds : Lib.decDigits u = ds at *
    have HDS := Lib.hid hds
    clear hi hds
    go_enter Tryd.func44, Tryd.ntmps44
    go_wp2_with fail
    have K := l01Dec_all u u (Nat.le_refl _) (by omega)
    rw [HDS.out] at K
    refine (K _).mono ?_
    rintro e w2 ⟨rfl, b2⟩
    go_wp2
    go_returns
    rw [HI.out]
    exact ⟨congrArg Ending.returned (congrArg Value.string (one_app ds 45)), (by repeat' (first | (with_reducible exact Below.refl _ _) | (with_reducible assumption) | (with_reducible refine below_drewN ?_ _) | (with_reducible refine Below.drew ?_) | (with_reducible refine Below.alloc ?_ ?_ _) | (with_reducible refine Below.setCell ?_ ?_ _) | (with_reducible refine Below.trans ?_ (Below.mono (by with_reducible assumption) ?_)) | go_size | (dsimp only; omega)))⟩
  · obtain ⟨u, rfl⟩ : ∃ u : Nat, z = (u : Int) := ⟨z.toNat, by omega⟩
    have hi : Lib.itoa (u : Int) = Lib.decDigits u := by
      unfold Lib.itoa
      rw [if_neg hz]
      rfl
    rw [hi]
    exact l01Dec_all u u (Nat.le_refl _) (by omega) w
end Go.Proofs.YtagjgpbcpjcceaaDoor
