/- The source of the draws: what is known of it, what a draw keeps. -/
import Derived.Test.YtlkhhpckgcdeeaaGreatDoorA
import Derived.Test.YtlkhhpckgcdeeaaGreatDoorW
import Derived.WalkSmall
import Derived.Laws.Bits64b
import Derived.IntWalk
import Derived.Deep.RegionHeld3
import Derived.StillTailTactics
namespace Go.Proofs.YtlkhhpckgcdeeaaGreatDoor
open Go.RowKit
set_option linter.unusedVariables false
set_option linter.unusedSimpArgs false
/-- below block B nothing but block s has turned -/
structure Kp (s B : Nat) (w w' : World) : Prop where
  os : w'.os = w.os
  tape : w'.tape = w.tape
  output : w'.output = w.output
  size : w.heap.size ≤ w'.heap.size
  block : ∀ k, k < B → k ≠ s → w'.heap[k]? = w.heap[k]?
theorem Kp.refl (s B : Nat) (w : World) : Kp s B w w := ⟨rfl, rfl, rfl, Nat.le_refl _, fun _ _ _ => rfl⟩
theorem Kp.trans {s B : Nat} {a b c : World} (h : Kp s B a b) (k : Kp s B b c) : Kp s B a c :=
  ⟨k.os.trans h.os, k.tape.trans h.tape, k.output.trans h.output, Nat.le_trans h.size k.size, fun i hi hs => (k.block i hi hs).trans (h.block i hi hs)⟩
theorem Kp.mono {s B B' : Nat} {w w' : World} (h : Kp s B w w') (hB : B' ≤ B) : Kp s B' w w' := ⟨h.os, h.tape, h.output, h.size, fun k hk hs => h.block k (Nat.lt_of_lt_of_le hk hB) hs⟩
theorem Kp.of_below {s B : Nat} {w w' : World} (h : Below B w w') : Kp s B w w' := ⟨h.os, h.tape, h.output, h.size, fun k hk _ => h.block k hk⟩
theorem Kp.below {s B : Nat} {w w' : World} (h : Kp s B w w') (hs : B ≤ s) : Below B w w' := ⟨h.os, h.tape, h.output, h.size, fun k hk => h.block k hk (by omega)⟩
theorem Kp.drew {s B : Nat} {a w : World} (h : Kp s B a w) : Kp s B a w.drew := ⟨h.os, h.tape, h.output, h.size, h.block⟩
theorem Kp.drewN {s B : Nat} {a w : World} (h : Kp s B a w) (n : Nat) : Kp s B a (w.drewN n) := h.trans (.of_below (below_drewN (Below.refl _ _) n))
theorem Kp.alloc {s B : Nat} {a w : World} (h : Kp s B a w) (hB : B ≤ w.heap.size) (o : Obj) : Kp s B a (w.alloc o) := h.trans (.of_below (Below.alloc (Below.refl _ _) hB o))
theorem Kp.setCell {s B : Nat} {a w : World} (h : Kp s B a w) {p : Addr} (hp : B ≤ p.block) (u : Value) : Kp s B a (w.setCell p u) := h.trans (.of_below (Below.setCell (Below.refl _ _) hp u))
theorem Kp.setSrc {s B : Nat} {a w : World} (h : Kp s B a w) {p : Addr} (hp : p.block = s) (u : Value) : Kp s B a (w.setCell p u) :=
  h.trans ⟨rfl, rfl, rfl, by simp [World.setCell], fun k hk hs => Below.heap_setCell _ _ _ _ (by omega)⟩
theorem Kp.cell {s B : Nat} {w w' : World} (h : Kp s B w w') {p : Addr} (hp : p.block < B) (hs : p.block ≠ s) : w'.cell? p = w.cell? p := World.cell?_of_block (w := w) (h.block p.block hp hs)
theorem Kp.frozen {s B : Nat} {w w' : World} (h : Kp s B w w') {p : Addr} (hp : p.block < B) (hs : p.block ≠ s) : w'.frozen? p = w.frozen? p := World.frozen?_of_block (w := w) (h.block p.block hp hs)
/-- bytes that lie below block s -/
def Bts (s : Nat) (w : World) (p : Option Addr) (n : Nat) : Prop := n = 0 ∨ ∃ g o, p = some ⟨g, o, none⟩ ∧ g < s ∧ g < w.heap.size ∧ ∀ j, j < n → ∃ b : Int, w.cell? ⟨g, o + j, none⟩ = some (.int .u8 b) ∧ 0 ≤ b ∧ b ≤ 255
/-- the source: code, place, hash -/
def SrcAt (s : Nat) (w : World) (p : Option Addr) (n c k : Nat) (h : Int) : Prop :=
  s < w.heap.size ∧ w.cell? ⟨s, 0, none⟩ = some (.slice p n c) ∧ w.cell? ⟨s, 1, none⟩ = some (.int .i64 k) ∧ w.cell? ⟨s, 2, none⟩ = some (.int .u64 h) ∧ (∀ i, w.frozen? ⟨s, i, none⟩ = false) ∧ 0 ≤ h ∧ h ≤ 18446744073709551615 ∧ k ≤ n ∧ n ≤ 4096 ∧ Bts s w p n
def Src (s : Nat) (w : World) : Prop := ∃ p n c k h, SrcAt s w p n c k h
theorem Bts.keep {s B B' : Nat} {w w' : World} {p : Option Addr} {n : Nat} (h : Bts s w p n) (hk : Kp s B w w') (hB : s ≤ B) : Bts s w' p n := by
  rcases h with h | ⟨g, o, h1, h2, h3, h4⟩
  · exact .inl h
  · refine .inr ⟨g, o, h1, h2, Nat.lt_of_lt_of_le h3 hk.size, fun j hj => ?_⟩
    rw [hk.cell (p := ⟨g, o + j, none⟩) (by dsimp only; omega) (by dsimp only; omega)]
    exact h4 j hj
theorem Src.below {s C : Nat} {w w' : World} (h : Src s w) (hb : Below C w w') (hC : s < C) : Src s w' := by
  obtain ⟨p, n, c, k, hh, h1, h2, h3, h4, h5, h6, h7, h8, h9, h10⟩ := h
  refine ⟨p, n, c, k, hh, Nat.lt_of_lt_of_le h1 hb.size, ?_, ?_, ?_, ?_, h6, h7, h8, h9, h10.keep (B' := 0) (.of_below hb) (by omega)⟩
  · rw [hb.cell (p := ⟨s, 0, none⟩) hC]; exact h2
  · rw [hb.cell (p := ⟨s, 1, none⟩) hC]; exact h3
  · rw [hb.cell (p := ⟨s, 2, none⟩) hC]; exact h4
  · intro i; rw [hb.frozen (p := ⟨s, i, none⟩) hC]; exact h5 i
theorem Src.lt {s : Nat} {w : World} (h : Src s w) : s < w.heap.size := by
  obtain ⟨p, n, c, k, hh, h1, -⟩ := h; exact h1
theorem Src.drew {s : Nat} {w : World} (h : Src s w) : Src s w.drew := h.below (Below.drew (Below.refl w.heap.size _)) h.lt
theorem Src.drewN {s : Nat} {w : World} (h : Src s w) (n : Nat) : Src s (w.drewN n) := h.below (below_drewN (Below.refl w.heap.size _) n) h.lt
theorem Src.alloc {s : Nat} {w : World} (h : Src s w) (o : Obj) : Src s (w.alloc o) := h.below (Below.alloc (Below.refl w.heap.size _) (Nat.le_refl _) o) h.lt
theorem Src.setCell {s : Nat} {w : World} (h : Src s w) {p : Addr} (hp : s < p.block) (u : Value) : Src s (w.setCell p u) := h.below (Below.setCell (Below.refl (s + 1) _) (by omega) u) (by omega)
theorem mask_bd (Y : Int) (h0 : 0 ≤ Y) (h1 : Y ≤ 18446744073709551615) : 0 ≤ wrap64 (bits BinOp.and IntKind.u64 (Y / 8589934592) 16777215) ∧ wrap64 (bits BinOp.and IntKind.u64 (Y / 8589934592) 16777215) ≤ 16777215 := by
  have h2 : 0 ≤ Y / 8589934592 := by omega
  have h := bits_and_u64_nat (Y / 8589934592).toNat 16777215 (by omega) (by omega)
  rw [Int.toNat_of_nonneg h2] at h
  have h3 : (Y / 8589934592).toNat &&& 16777215 ≤ 16777215 := Nat.and_le_right
  have e : bits BinOp.and IntKind.u64 (Y / 8589934592) 16777215 = (((Y / 8589934592).toNat &&& 16777215 : Nat) : Int) := h
  rw [e]
  have e2 : wrap64 (((Y / 8589934592).toNat &&& 16777215 : Nat) : Int) = (((Y / 8589934592).toNat &&& 16777215 : Nat) : Int) := IntWalk.wrap64_in _ (by omega)
  rw [e2]
  omega
theorem u64_bd (Y : Int) : 0 ≤ IntKind.u64.wrap Y ∧ IntKind.u64.wrap Y ≤ 18446744073709551615 := by
  rw [IntKind.wrap_u64]; omega
set_option maxHeartbeats 1000000 in
theorem next_c (s : Nat) (n : Int) (w : World) (hS : Src s w) (hn0 : -9223372036854775808 ≤ n) (hn1 : n ≤ 9223372036854775807) :
    Calls Tryz.prog 76 #[.pointer (some ⟨s, 0, none⟩), .int .i64 n] w fun e w' => ∃ x : Int, e = .returned (.int .i64 x) ∧ 0 ≤ x ∧ (1 ≤ n → x < n) ∧ Src s w' ∧ Kp s w.heap.size w w' := by
  obtain ⟨p, m, c, k, h, h1, h2, h3, h4, h5, h6, h7, h8, h9, h10⟩ := hS
  by_cases hn : n < 1
  · have hS : Src s w := ⟨p, m, c, k, h, h1, h2, h3, h4, h5, h6, h7, h8, h9, h10⟩
    clear h1 h2 h3 h4 h5 h6 h7 h8 h9 h10
    go_enter Tryz.func76, Tryz.ntmps76
    go_wp2
    go_returns
    exact ⟨0, rfl, by omega, by omega, hS, Kp.refl _ _ _⟩
  · obtain ⟨h', hh'⟩ : ∃ h', IntKind.u64.wrap (IntKind.u64.wrap (h * 6364136223846793005) + 1442695040888963407) = h' := ⟨_, rfl⟩
    have hb' : 0 ≤ h' ∧ h' ≤ 18446744073709551615 := by rw [← hh']; exact u64_bd _
    obtain ⟨x, hx⟩ : ∃ x, wrap64 (bits BinOp.and IntKind.u64 (h' / 8589934592) 16777215) = x := ⟨_, rfl⟩
    have hxb : 0 ≤ x ∧ x ≤ 16777215 := by rw [← hx]; exact mask_bd h' hb'.1 hb'.2
    go_enter Tryz.func76, Tryz.ntmps76
    go_wp2
    generalize hw1 : World.setCell _ _ _ = w1
    have c0 : w1.cell? ⟨s, 0, none⟩ = some (.slice p m c) := by subst hw1; go_simp
    have c1 : w1.cell? ⟨s, 1, none⟩ = some (.int .i64 k) := by subst hw1; go_simp
    have c2 : w1.cell? ⟨s, 2, none⟩ = some (.int .u64 h') := by subst hw1; go_simp
    have cf : ∀ i, w1.frozen? ⟨s, i, none⟩ = false := by subst hw1; intro i; go_simp
    have hK : Kp s w.heap.size w w1 := by subst hw1; exact (Kp.refl _ _ _).setSrc (p := ⟨s, 2, none⟩) rfl _
    have hl : s < w1.heap.size := by subst hw1; simpa using h1
    have hB := h10.keep (B' := 0) hK (by omega)
    clear hw1 h1 h2 h3 h4 h5 h10
    go_region_held3 (fun w' => w'.cell? ⟨s, 1, none⟩ = some (.int .i64 k) ∧ w'.cell? ⟨s, 0, none⟩ = some (.slice p m c)) (go_keep) (fail)
    generalize hw2 : World.drew _ = w2
    have d0 : w2.cell? ⟨s, 0, none⟩ = some (.slice p m c) := by subst hw2; exact c0
    have d1 : w2.cell? ⟨s, 1, none⟩ = some (.int .i64 k) := by subst hw2; exact c1
    have d2 : w2.cell? ⟨s, 2, none⟩ = some (.int .u64 h') := by subst hw2; exact c2
    have df : ∀ i, w2.frozen? ⟨s, i, none⟩ = false := by subst hw2; exact cf
    have hK2 : Kp s w.heap.size w w2 := by subst hw2; exact hK.drew
    have hl2 : s < w2.heap.size := by subst hw2; exact hl
    have hB2 := hB.keep (B' := 0) (show Kp s w1.heap.size w1 w2 by subst hw2; exact (Kp.refl _ _ _).drew) (by omega)
    clear hw2 c0 c1 c2 cf hK hl hB
    have hx2 : hh' = hh' := rfl
    clear hx2 hx hh'
    by_cases hkm : k < m
    · obtain ⟨g, o, rfl, hg, hgl, hby⟩ : ∃ g o, p = some ⟨g, o, none⟩ ∧ g < s ∧ g < w2.heap.size ∧ ∀ j, j < m → ∃ b : Int, w2.cell? ⟨g, o + j, none⟩ = some (.int .u8 b) ∧ 0 ≤ b ∧ b ≤ 255 := by
        rcases hB2 with h | h
        · omega
        · exact h
      obtain ⟨b, hb, b0, b1⟩ := hby k hkm
      have hB2' : Bts s w2 (some ⟨g, o, none⟩) m := .inr ⟨g, o, rfl, hg, hgl, hby⟩
      clear hB2 hby
      have hkm' : (k : Int) < (m : Int) := by omega
      go_wp2
      go_region_held3 (fun w' => w'.cell? ⟨s, 1, none⟩ = some (.int .i64 k) ∧ w'.cell? ⟨s, 0, none⟩ = some (.slice (some ⟨g, o, none⟩) m c) ∧ w'.cell? ⟨g, o + k, none⟩ = some (.int .u8 b)) (go_keep) (fail)
      generalize hw3 : World.drew _ = w3
      have f0 : w3.cell? ⟨s, 0, none⟩ = some (.slice (some ⟨g, o, none⟩) m c) := by subst hw3; exact d0
      have f1 : w3.cell? ⟨s, 1, none⟩ = some (.int .i64 k) := by subst hw3; exact d1
      have f2 : w3.cell? ⟨s, 2, none⟩ = some (.int .u64 h') := by subst hw3; exact d2
      have ff : ∀ i, w3.frozen? ⟨s, i, none⟩ = false := by subst hw3; exact df
      have hK3 : Kp s w.heap.size w w3 := by subst hw3; exact hK2.drew
      have hl3 : s < w3.heap.size := by subst hw3; exact hl2
      have hB3 := hB2'.keep (B' := 0) (show Kp s w2.heap.size w2 w3 by subst hw3; exact (Kp.refl _ _ _).drew) (by omega)
      clear hw3 d0 d1 d2 df hK2 hl2 hB2' hb hgl
      have hmb := Int.tmod_lt_of_pos (x + b) (show 0 < n by omega)
      have hm0 := Int.tmod_nonneg (a := x + b) n (by omega)
      have hnz : (n == 0) = false := by simp; omega
      go_wp2
      go_returns
      refine ⟨_, rfl, ?_, ?_, ?_, ?_⟩
      · first | exact hm0 | exact Int.emod_nonneg _ (by omega)
      · intro _; first | exact hmb | exact Int.emod_lt_of_pos _ (by omega)
      · exact ⟨some ⟨g, o, none⟩, m, c, k + 1, h', by go_size, by go_simp, by go_simp, by go_simp, (by intro i; go_simp), hb'.1, hb'.2, by omega, h9, hB3.keep (B' := 0) ((Kp.refl s s w3).setSrc (p := ⟨s, 1, none⟩) rfl _) (Nat.le_refl _)⟩
      · exact hK3.setSrc (p := ⟨s, 1, none⟩) rfl _
    · have hmb := Int.tmod_lt_of_pos x (show 0 < n by omega)
      have hm0 := Int.tmod_nonneg (a := x) n (by omega)
      have hnz : (n == 0) = false := by simp; omega
      go_wp2
      go_returns
      refine ⟨_, rfl, ?_, ?_, ?_, ?_⟩
      · first | exact hm0 | exact Int.emod_nonneg _ (by omega)
      · intro _; first | exact hmb | exact Int.emod_lt_of_pos _ (by omega)
      · exact ⟨p, m, c, k, h', hl2, d0, d1, d2, df, hb'.1, hb'.2, h8, h9, hB2⟩
      · exact hK2
/-- bytes that came in -/
def CodeV (w : World) (v : Value) : Prop := ∃ p n c, v = .slice p n c ∧ n ≤ 4096 ∧ Bts w.heap.size w p n
theorem CodeV.below {w w' : World} {v : Value} (h : CodeV w v) (hb : Below w.heap.size w w') : CodeV w' v := by
  obtain ⟨p, n, c, rfl, h1, h2⟩ := h
  refine ⟨p, n, c, rfl, h1, ?_⟩
  rcases h2 with h2 | ⟨g, o, e, g1, g2, g3⟩
  · exact .inl h2
  · refine .inr ⟨g, o, e, Nat.lt_of_lt_of_le g1 hb.size, Nat.lt_of_lt_of_le g1 hb.size, fun j hj => ?_⟩
    rw [hb.cell (p := ⟨g, o + j, none⟩) g1]; exact g3 j hj
set_option maxHeartbeats 1000000 in
set_option maxRecDepth 100000 in
theorem from_c (v : Value) (w : World) (hv : CodeV w v) :
    Calls Tryz.prog 63 #[v] w fun e w' => ∃ s, e = .returned (.pointer (some ⟨s, 0, none⟩)) ∧ w.heap.size ≤ s ∧ Src s w' ∧ Below w.heap.size w w' := by
  obtain ⟨p, n, c, rfl, hn, hB⟩ := hv
  go_enter Tryz.func63, Tryz.ntmps63
  go_wp2
  generalize hw0 : World.alloc _ _ = w0
  have hS : SrcAt w.heap.size w0 p n c 0 (13801 + n) := by
    subst hw0
    refine ⟨by simp, by go_cell, by go_cell, by go_cell, (by intro i; first | (simp; done) | (go_simp; done)), by omega, by omega, by omega, hn, hB.keep (B' := 0) (B := w.heap.size) ((Kp.refl _ _ _).alloc (Nat.le_refl _) _) (Nat.le_refl _)⟩
  have hB0 : Below w.heap.size w w0 := by subst hw0; exact (by repeat' (first | (with_reducible exact Below.refl _ _) | (with_reducible assumption) | (with_reducible refine below_drewN ?_ _) | (with_reducible refine Below.drew ?_) | (with_reducible refine Below.alloc ?_ ?_ _) | (with_reducible refine Below.setCell ?_ ?_ _) | (with_reducible refine Below.trans ?_ (Below.mono (by with_reducible assumption) ?_)) | go_size | (dsimp only; omega)))
  clear hw0 hB
  go_loopw [4] (fun i wr => ∃ (k : Nat) (h : Int), i = .int .i64 k ∧ k ≤ n ∧ SrcAt w.heap.size wr p n c 0 h ∧ Below w.heap.size w wr) (fun i wr => n - (intOf i).toNat)
  case atStart => exact ⟨0, _, rfl, by omega, hS, hB0⟩
  case round =>
    clear hS hB0
    obtain ⟨k, h, rfl, hk, ⟨h1, h2, h3, h4, h5, h6, h7, h8, h9, h10⟩, hB⟩ := hrel
    by_cases hlt : k < n ∧ k < 4096
    · obtain ⟨hl1, hl2⟩ := hlt
      have hl1' : (k : Int) < (n : Int) := by omega
      obtain ⟨g, o, rfl, hg, hgl, hby⟩ : ∃ g o, p = some ⟨g, o, none⟩ ∧ g < w.heap.size ∧ g < wr.heap.size ∧ ∀ j, j < n → ∃ b : Int, wr.cell? ⟨g, o + j, none⟩ = some (.int .u8 b) ∧ 0 ≤ b ∧ b ≤ 255 := by
        rcases h10 with h | h
        · omega
        · exact h
      obtain ⟨b, hb, b0, b1⟩ := hby k hl1
      have hB2 : Bts w.heap.size wr (some ⟨g, o, none⟩) n := .inr ⟨g, o, rfl, hg, hgl, hby⟩
      clear h10 hby
      obtain ⟨h', hh'⟩ : ∃ h', IntKind.u64.wrap (IntKind.u64.wrap (IntKind.u64.wrap (h * 1099511628211) + b) + 227) = h' := ⟨_, rfl⟩
      have hb' : 0 ≤ h' ∧ h' ≤ 18446744073709551615 := by rw [← hh']; exact u64_bd _
      go_wp2
      go_still_tail 15, (by kernel_rfl)
      change wpList _ _ _ _ _ wr.drew
      generalize hw2 : wr.drew = w2
      have d0 : w2.cell? ⟨w.heap.size, 0, none⟩ = some (.slice (some ⟨g, o, none⟩) n c) := by subst hw2; exact h2
      have d1 : w2.cell? ⟨w.heap.size, 1, none⟩ = some (.int .i64 (0 : Nat)) := by subst hw2; exact h3
      have d2 : w2.cell? ⟨w.heap.size, 2, none⟩ = some (.int .u64 h) := by subst hw2; exact h4
      have df : ∀ i, w2.frozen? ⟨w.heap.size, i, none⟩ = false := by subst hw2; exact h5
      have hK2 : Below w.heap.size w w2 := by subst hw2; exact hB.drew
      have hl3 : w.heap.size < w2.heap.size := by subst hw2; exact h1
      have hB3 := hB2.keep (B' := 0) (show Kp w.heap.size wr.heap.size wr w2 by subst hw2; exact (Kp.refl _ _ _).drew) (by omega)
      clear hw2 h1 h2 h3 h4 h5 hB hB2 hb hgl
      go_wp2
      go_roundw
      case rel => exact ⟨k + 1, h', by go_num, by omega, ⟨by go_size, by go_simp, by go_simp, by go_simp, (by intro i; go_simp), hb'.1, hb'.2, by omega, h9, hB3.keep (B' := 0) (s := w.heap.size) ((Kp.refl _ w.heap.size w2).setSrc (p := ⟨w.heap.size, 2, none⟩) rfl _) (Nat.le_refl _)⟩, (by repeat' (first | (with_reducible exact Below.refl _ _) | (with_reducible assumption) | (with_reducible refine below_drewN ?_ _) | (with_reducible refine Below.drew ?_) | (with_reducible refine Below.alloc ?_ ?_ _) | (with_reducible refine Below.setCell ?_ ?_ _) | (with_reducible refine Below.trans ?_ (Below.mono (by with_reducible assumption) ?_)) | go_size | (dsimp only; omega)))⟩
      case measure => simp [intOf]; omega
    · have hS : Src w.heap.size wr := ⟨p, n, c, 0, h, h1, h2, h3, h4, h5, h6, h7, h8, h9, h10⟩
      clear h1 h2 h3 h4 h5 h6 h7 h8 h9 h10
      by_cases hl1 : k < n
      · have hl1' : (k : Int) < (n : Int) := by omega
        have hl2 : ¬ ((k : Int) < 4096) := by omega
        go_wp2
        go_returns
        exact ⟨_, rfl, Nat.le_refl _, hS, hB⟩
      · have hl1' : ¬ ((k : Int) < (n : Int)) := by omega
        go_wp2
        go_returns
        exact ⟨_, rfl, Nat.le_refl _, hS, hB⟩
end Go.Proofs.YtlkhhpckgcdeeaaGreatDoor
