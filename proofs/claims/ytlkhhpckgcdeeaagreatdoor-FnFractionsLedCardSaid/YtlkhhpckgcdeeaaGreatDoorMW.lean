/- Rows of fractions and of matrices: equal, marked, held. -/
import Derived.Test.YtlkhhpckgcdeeaaGreatDoorAD
import Derived.Deep.RegionHeld3
import Derived.Deep.DrawnRows
import Derived.IntWalk
import Derived.Deep.AppendLies
import Derived.Deep.DeepCutAuto
namespace Go.Proofs.YtlkhhpckgcdeeaaGreatDoor
open Go.RowKit
set_option linter.unusedVariables false
set_option linter.unusedSimpArgs false
/-- a row of elements of some numbers each, that lies in a block from B on and that may be written -/
def OwnF (sz B : Nat) (w : World) (v : Value) (xs : List Int) : Prop :=
  (xs = [] ∧ ∃ p c, v = .slice p 0 c) ∨ (∃ g n c, v = .slice (some ⟨g, 0, none⟩) n c ∧ xs.length = n * sz ∧ B ≤ g ∧ g < w.heap.size ∧ RowI w g 0 xs ∧ ∀ i, w.frozen? ⟨g, i, none⟩ = false)
theorem OwnF.nil {sz B : Nat} {w : World} : OwnF sz B w (.slice none 0 0) [] := .inl ⟨rfl, none, 0, rfl⟩
theorem OwnF.of_row {sz : Nat} {w : World} {base n : Nat} {e : TypeId} {v : Value} {xs : List Int} (hs : 0 < sz) (h : w.ownsRow base e sz v n (xs.map (Value.int .i64))) : OwnF sz base w v xs := by
  have hc := @World.ownsRow.cells w base e sz v n _ h
  have hlt := h.lt
  have hl : xs.length = n * sz := by have := h.1; simpa using this
  rcases h.2 with ⟨h1, h2⟩ | ⟨g, cap, cur, hv, hb, hg, h3, h4, h5, h6⟩
  · exact .inl ⟨by rw [h2] at hl; exact List.length_eq_zero_iff.mp (by omega), _, _, by rw [h1]⟩
  · refine .inr ⟨g, n, cap, hv, hl, hb, (hlt g (by rw [hv]; rfl)).2, ?_, ?_⟩
    · intro k hk
      have := hc (g := g) (by rw [hv]; rfl) k (.int .i64 (xs.getD k 0)) (by simp [List.getElem?_eq_getElem hk, List.getD])
      by_cases hk0 : k = 0
      · subst hk0; simpa [Addr.add] using this
      · simpa [Addr.add, hk0] using this
    · intro i; simp [World.frozen?, hg]
theorem OwnF.base {sz B B' : Nat} {w : World} {v : Value} {xs : List Int} (h : OwnF sz B w v xs) (hb : B' ≤ B) : OwnF sz B' w v xs := by
  rcases h with h | ⟨g, n, c, h1, h2, h3, h4, h5, h6⟩
  · exact .inl h
  · exact .inr ⟨g, n, c, h1, h2, by omega, h4, h5, h6⟩
theorem OwnF.below {sz B C : Nat} {w w' : World} {v : Value} {xs : List Int} (h : OwnF sz B w v xs) (hb : Below C w w') (hc : w.heap.size ≤ C) : OwnF sz B w' v xs := by
  rcases h with h | ⟨g, n, c, h1, h2, h3, h4, h5, h6⟩
  · exact .inl h
  · refine .inr ⟨g, n, c, h1, h2, h3, Nat.lt_of_lt_of_le h4 hb.size, fun k hk => ?_, fun i => ?_⟩
    · rw [hb.cell (p := ⟨g, 0 + k, none⟩) (by dsimp only; omega)]; exact h5 k hk
    · rw [hb.frozen (p := ⟨g, i, none⟩) (by dsimp only; omega)]; exact h6 i
theorem OwnF.below_at {sz B B0 C : Nat} {w w' w0 : World} {v : Value} {xs : List Int} (h : OwnF sz B w v xs) (h0 : OwnF sz B0 w0 v xs) (hz : w0.heap.size ≤ C) (hb : Below C w w') : OwnF sz B w' v xs := by
  rcases h with h | ⟨g, n, c, h1, h2, h3, h4, h5, h6⟩
  · exact .inl h
  · rcases h0 with ⟨e, p, c', h1'⟩ | ⟨g', n', c', h1', _, _, h4', _, _⟩
    · subst e; rw [h1] at h1'; injection h1' with e1 e2 e3; exact .inl ⟨rfl, _, _, by rw [h1, e2]⟩
    · rw [h1] at h1'
      obtain rfl : g = g' := by injection h1' with e; injection e with e; injection e
      refine .inr ⟨g, n, c, h1, h2, h3, Nat.lt_of_lt_of_le h4 hb.size, fun k hk => ?_, fun i => ?_⟩
      · rw [hb.cell (p := ⟨g, 0 + k, none⟩) (by dsimp only; omega)]; exact h5 k hk
      · rw [hb.frozen (p := ⟨g, i, none⟩) (by dsimp only; omega)]; exact h6 i
theorem markF_step {wr : World} {b n k : Nat} {k0 : Int} {zs : List Int} (hk : k < n) (h : ∀ j, j < n → wr.cell? ⟨b, 0 + j, none⟩ = some (.int .i64 (if j < k then k0 + (j : Int) else zs.getD j 0))) {x : Int} (hx : x = k0 + (k : Int)) {o : Nat} (ho : o = k) :
    ∀ j, j < n → (wr.setCell ⟨b, o, none⟩ (.int .i64 x)).cell? ⟨b, 0 + j, none⟩ = some (.int .i64 (if j < k + 1 then k0 + (j : Int) else zs.getD j 0)) := by
  subst hx ho
  intro j hj
  have hk' := h o hk
  have hj' := h j hj
  simp only [Nat.zero_add] at hk' hj' ⊢
  by_cases e : j = o
  · subst e
    rw [if_pos (by omega)]
    go_simp
  · have hne' : ¬ o = j := by omega
    have hif : (if j < o + 1 then k0 + (j : Int) else zs.getD j 0) = (if j < o then k0 + (j : Int) else zs.getD j 0) := by
      by_cases c : j < o
      · rw [if_pos c, if_pos (by omega)]
      · rw [if_neg c, if_neg (by omega)]
    rw [hif, ← hj']
    go_simp
end Go.Proofs.YtlkhhpckgcdeeaaGreatDoor

/- Laws on rows of fractions and of matrices: the walks, printed by rowlaw.py. -/
namespace Go.Proofs.YtlkhhpckgcdeeaaGreatDoor
open Go.RowKit
set_option linter.unusedVariables false
set_option linter.unusedSimpArgs false
end Go.Proofs.YtlkhhpckgcdeeaaGreatDoor

/- MatricesWithin. -/
namespace Go.Proofs.YtlkhhpckgcdeeaaGreatDoor
open Go.RowKit
set_option linter.unusedVariables false
set_option linter.unusedSimpArgs false
attribute [local go_sem] run_min_int4 run_max_int4
/-- the parts of x, x + 1, .. n in a row -/
def upTo (n : Int) (F : Int → List Int) (x : Int) : List Int := if x ≤ n then F x ++ upTo n F (x + 1) else []
termination_by (n + 1 - x).toNat
decreasing_by omega
theorem upTo_step {n x : Int} (F : Int → List Int) (h : x ≤ n) : upTo n F x = F x ++ upTo n F (x + 1) := by
  rw [upTo, if_pos h]
theorem upTo_end {n x : Int} (F : Int → List Int) (h : ¬ x ≤ n) : upTo n F x = [] := by
  rw [upTo, if_neg h]
theorem upTo_len {n : Int} (F : Int → List Int) (K : Nat) (hF : ∀ x, (F x).length ≤ K) : ∀ m : Nat, ∀ x : Int, n + 1 - x ≤ m → (upTo n F x).length ≤ K * m := by
  intro m
  induction m with
  | zero => intro x hx; rw [upTo_end F (by omega)]; simp
  | succ m ih =>
    intro x hx
    by_cases h : x ≤ n
    · rw [upTo_step F h, List.length_append, Nat.mul_succ]
      have h1 := hF x
      have h2 := ih (x + 1) (by omega)
      omega
    · rw [upTo_end F h]; simp
def cellM (a b c d : Int) : List Int := if a * d - b * c = 1 then [a, b, c, d] else []
def rD (n a b c d : Int) : List Int := upTo n (cellM a b c) d
def rC (n a b c : Int) : List Int := upTo n (fun c => rD n a b c (-n)) c
def rB (n a b : Int) : List Int := upTo n (fun b => rC n a b (-n)) b
def rA (n a : Int) : List Int := upTo n (fun a => rB n a (-n)) a
theorem rA_len (n : Int) (hn : n ≤ 3) : (rA n (-n)).length ≤ 9604 := by
  have h1 : ∀ a b c x, (cellM a b c x).length ≤ 4 := by
    intro a b c x; unfold cellM; split <;> simp
  have h2 : ∀ a b c, (rD n a b c (-n)).length ≤ 4 * 7 := fun a b c => upTo_len _ 4 (h1 a b c) 7 (-n) (by omega)
  have h3 : ∀ a b, (rC n a b (-n)).length ≤ 4 * 7 * 7 := fun a b => upTo_len _ _ (h2 a b) 7 (-n) (by omega)
  have h4 : ∀ a, (rB n a (-n)).length ≤ 4 * 7 * 7 * 7 := fun a => upTo_len _ _ (h3 a) 7 (-n) (by omega)
  exact upTo_len _ _ h4 7 (-n) (by omega)
theorem under_Ms' : Tryz.prog.underlying 54 = some (.slice 25) := by kernel_rfl
theorem info_M' : (Tryz.prog.info? 25).map (fun i => (i.zero, i.size, i.bytes)) = some (some (.agg #[.int .i64 0, .int .i64 0, .int .i64 0, .int .i64 0]), 4, 32) := by kernel_rfl
theorem ownW_drew {w : World} {base n size : Nat} {e : TypeId} {v : Value} {xs : List Value} (h : w.ownsRow base e size v n xs) : w.drew.ownsRow base e size v n xs := h
theorem ownW_below {w w' : World} {base n size : Nat} {e : TypeId} {v : Value} {xs : List Value} (h : w.ownsRow base e size v n xs) (hb : Below w.heap.size w w') : w'.ownsRow base e size v n xs := by
  have hlt := h.lt
  obtain ⟨h1, h2⟩ := h
  refine ⟨h1, h2.imp id (fun ⟨g, cap, cur, h1, h2, h3, h4⟩ => ⟨g, cap, cur, h1, h2, ?_, h4⟩)⟩
  rw [hb.block g (by have := (hlt g (by rw [h1]; rfl)).2; omega)]; exact h3
/-- the row so far, and what is to come -/
def RowAt (w : World) (zs rest : List Int) (v : Value) (wr : World) : Prop :=
  ∃ m, Hid (zs.take (4 * m) ++ rest = zs) ∧ 4 * m ≤ zs.length ∧ wr.ownsRow w.heap.size 25 4 v m ((zs.take (4 * m)).map (Value.int .i64)) ∧ Below w.heap.size w wr ∧ w.heap.size < wr.heap.size
theorem RowAt.same {w : World} {zs r1 r2 : List Int} {v : Value} {wr : World} (h : RowAt w zs r1 v wr) (e : r1 = r2) : RowAt w zs r2 v wr := e ▸ h
theorem RowAt.drew {w : World} {zs r1 : List Int} {v : Value} {wr : World} (h : RowAt w zs r1 v wr) : RowAt w zs r1 v wr.drew := by
  obtain ⟨m, h1, h2, h3, h4, h5⟩ := h
  exact ⟨m, h1, h2, ownW_drew h3, Below.drew h4, by simpa using h5⟩
theorem take_four {zs l : List Int} {a b c d : Int} {m : Nat} (hm : 4 * m ≤ zs.length) (h : zs.take (4 * m) ++ a :: b :: c :: d :: l = zs) : zs.take (4 * (m + 1)) = zs.take (4 * m) ++ [a, b, c, d] ∧ zs.take (4 * (m + 1)) ++ l = zs ∧ 4 * (m + 1) ≤ zs.length := by
  have hl : (zs.take (4 * m)).length = 4 * m := by rw [List.length_take]; omega
  have e1 : zs.take (4 * (m + 1)) = zs.take (4 * m) ++ [a, b, c, d] := by
    conv => lhs; rw [← h]
    rw [show 4 * (m + 1) = (zs.take (4 * m)).length + 4 by omega, List.take_length_add_append]
    rfl
  have hlen := congrArg List.length h
  simp at hlen
  exact ⟨e1, by rw [e1, List.append_assoc]; exact h, by omega⟩
theorem small_ent {n x : Int} (hn : n ≤ 3) (h0 : -n ≤ x) (h1 : x ≤ n) : ent x = true := ent_iff.mpr ⟨by omega, by omega⟩
theorem small_isM {n a b c d : Int} (ha : ent a = true) (hb : ent b = true) (hc : ent c = true) (hd : ent d = true) : isM a b c d = decide (a * d - b * c = 1) := by
  unfold isM; rw [ha, hb, hc, hd]; rfl
theorem MatricesWithin_no (n : Int) (w : World) (h : (decide (0 ≤ n) && decide (n ≤ 3)) = false) :
    Calls Tryz.prog 32 #[.int .i64 n] w fun e w' => ∃ v, e = .returned (.tuple #[v, .int .i64 2]) ∧ OwnF 4 w.heap.size w' v [] ∧ Below w.heap.size w w' := by
  have H := Lib.hid h
  clear h
  go_enter Tryz.func32, Tryz.ntmps32
  go_wp2_with fail
  refine (within_c _ _ _ _).mono ?_
  rintro e w2 ⟨rfl, rfl⟩
  rw [H.out]
  go_wp2
  go_returns
  exact ⟨_, rfl, OwnF.nil, Below.refl _ _⟩
set_option maxRecDepth 100000 in
set_option maxHeartbeats 8000000 in
theorem MatricesWithin_yes (n : Int) (w : World) (h0 : 0 ≤ n) (h3 : n ≤ 3) :
    Calls Tryz.prog 32 #[.int .i64 n] w fun e w' => ∃ v, e = .returned (.tuple #[v, .int .i64 0]) ∧ OwnF 4 w.heap.size w' v (rA n (-n)) ∧ Below w.heap.size w w' := by
  obtain ⟨i0, hi, hz0, hz1, hz2⟩ := info_parts info_M'
  have hr : (decide (0 ≤ n) && decide (n ≤ 3)) = true := by simp; omega
  have HIN := Lib.hid hr
  have hzl := rA_len n h3
  generalize hzs : rA n (-n) = zs at *
  have HZ := Lib.hid hzs
  have hown0 := own_new w w.heap.size 25 4 (Nat.le_refl _)
  clear hr hzs
  go_enter Tryz.func32, Tryz.ntmps32
  go_wp2_with fail
  refine (within_c _ _ _ _).mono ?_
  rintro e w2 ⟨rfl, rfl⟩
  rw [HIN.out]
  go_wp2
  go_loopw [4, 5] (fun v x wr => ∃ a : Int, x = .int .i64 a ∧ -n ≤ a ∧ a ≤ n + 1 ∧ RowAt w zs (rA n a) v wr) (fun v x wr => (n + 1 - intOf x).toNat)
  case atStart => exact ⟨-n, rfl, by omega, by omega, ⟨0, Lib.hid (by rw [HZ.out]; simp), by omega, by simpa using hown0, (by repeat' (first | (with_reducible exact Below.refl _ _) | (with_reducible assumption) | (with_reducible refine below_drewN ?_ _) | (with_reducible refine Below.drew ?_) | (with_reducible refine Below.alloc ?_ ?_ _) | (with_reducible refine Below.setCell ?_ ?_ _) | (with_reducible refine Below.trans ?_ (Below.mono (by with_reducible assumption) ?_)) | go_size | (dsimp only; omega))), by simp⟩⟩
  case round =>
    obtain ⟨a, rfl, ha0, ha1, RA⟩ := hrel
    clear hown0
    by_cases hla : a ≤ n
    · replace RA := RA.same (upTo_step (fun a => rB n a (-n)) hla)
      go_wp2
      go_loopw [4, 6] (fun v x wr => ∃ b : Int, x = .int .i64 b ∧ -n ≤ b ∧ b ≤ n + 1 ∧ RowAt w zs (rB n a b ++ rA n (a + 1)) v wr) (fun v x wr => (n + 1 - intOf x).toNat)
      case atStart => exact ⟨-n, rfl, by omega, by omega, RA⟩
      case round =>
        obtain ⟨b, rfl, hb0, hb1, RB⟩ := hrel
        clear RA
        by_cases hlb : b ≤ n
        · replace RB := RB.same (by rw [show rB n a b = _ from upTo_step (fun b => rC n a b (-n)) hlb, List.append_assoc])
          go_wp2
          go_loopw [4, 7] (fun v x wr => ∃ c : Int, x = .int .i64 c ∧ -n ≤ c ∧ c ≤ n + 1 ∧ RowAt w zs (rC n a b c ++ (rB n a (b + 1) ++ rA n (a + 1))) v wr) (fun v x wr => (n + 1 - intOf x).toNat)
          case atStart => exact ⟨-n, rfl, by omega, by omega, RB⟩
          case round =>
            obtain ⟨c, rfl, hc0, hc1, RC⟩ := hrel
            clear RB
            by_cases hlc : c ≤ n
            · replace RC := RC.same (by rw [show rC n a b c = _ from upTo_step (fun c => rD n a b c (-n)) hlc, List.append_assoc])
              go_wp2
              go_loopw [4, 8] (fun v x wr => ∃ d : Int, x = .int .i64 d ∧ -n ≤ d ∧ d ≤ n + 1 ∧ RowAt w zs (rD n a b c d ++ (rC n a b (c + 1) ++ (rB n a (b + 1) ++ rA n (a + 1)))) v wr) (fun v x wr => (n + 1 - intOf x).toNat)
              case atStart => exact ⟨-n, rfl, by omega, by omega, RC⟩
              case round =>
                obtain ⟨d, rfl, hd0, hd1, RD⟩ := hrel
                clear RC
                by_cases hld : d ≤ n
                · have hea := small_ent h3 ha0 hla
                  have heb := small_ent h3 hb0 hlb
                  have hec := small_ent h3 hc0 hlc
                  have hed := small_ent h3 hd0 hld
                  obtain ⟨p0, p1⟩ := ent_mul hea hed
                  obtain ⟨q0, q1⟩ := ent_mul heb hec
                  have him := small_isM (n := n) hea heb hec hed
                  have HIM := Lib.hid him
                  clear hea heb hec hed him
                  by_cases hdet : a * d - b * c = 1
                  · replace RD := RD.same (by rw [show rD n a b c d = _ from upTo_step (cellM a b c) hld, cellM, if_pos hdet, List.append_assoc])
                    obtain ⟨m, HT, hml, hown, hB, hws⟩ := RD
                    obtain ⟨t1, t2, t3⟩ := take_four hml HT.out
                    have HT1 := Lib.hid t1
                    have HT2 := Lib.hid t2
                    clear t1 t2 HT
                    have him : isM a b c d = true := by rw [HIM.out]; exact decide_eq_true hdet
                    go_wp2_with fail
                    refine (IsMatrix_c a b c d _).mono ?_
                    rintro e w2 ⟨rfl, b2⟩
                    rw [him]
                    have hown2 := ownW_below (hown.alloc (Obj.cells #[.int .i64 a, .int .i64 b, .int .i64 c, .int .i64 d] 25)) b2
                    have zzb2 := b2.size; (try simp at zzb2); have zb2_0 : wr.heap.size < w2.heap.size := (by omega); have kcb2_0 : ∀ o, w2.cell? ⟨wr.heap.size, o, none⟩ = _ := fun o => b2.cell (p := ⟨wr.heap.size, o, none⟩) (by go_size); have kfb2_0 : ∀ o, w2.frozen? ⟨wr.heap.size, o, none⟩ = _ := fun o => b2.frozen (p := ⟨wr.heap.size, o, none⟩) (by go_size); clear zzb2
                    have hB2 : Below w.heap.size w w2 := (by repeat' (first | (with_reducible exact Below.refl _ _) | (with_reducible assumption) | (with_reducible refine below_drewN ?_ _) | (with_reducible refine Below.drew ?_) | (with_reducible refine Below.alloc ?_ ?_ _) | (with_reducible refine Below.setCell ?_ ?_ _) | (with_reducible refine Below.trans ?_ (Below.mono (by with_reducible assumption) ?_)) | go_size | (dsimp only; omega)))
                    have z2 := b2.size
                    clear hown hB b2
                    go_wp2_with (at_builtin; refine wpList_append_own _ rfl _ _ 54 rfl w.heap.size 25 i0 (.agg #[.int .i64 0, .int .i64 0, .int .i64 0, .int .i64 0]) 4 32 under_Ms' hi hz0 hz1 hz2 rfl (by decide) _ _ _ rfl (hown2.alloc _) ⟨w2.heap.size, 0, none⟩ 1 1 [.int .i64 a, .int .i64 b, .int .i64 c, .int .i64 d] rfl rfl (World.news_of_block (cs := #[.int .i64 a, .int .i64 b, .int .i64 c, .int .i64 d]) (t := 25) (fr := (0, 0)) (heap_alloc_new w2 _)) (by simp [Value.oneCell']) (by unfold maxLen; omega) (by omega) (by simp; omega) ?_; intro v' w3 hown3 hgrow3 hnil3; obtain ⟨hB3, hs3, fc3, ff3⟩ := app_after hown2 hgrow3 hB2 (by omega) (by omega); clear fc3 ff3 hgrow3 hnil3)
                    have ho3 : w3.ownsRow w.heap.size 25 4 v' (m + 1) ((zs.take (4 * (m + 1))).map (Value.int .i64)) := by
                      rw [HT1.out]; simpa using hown3
                    go_roundw
                    case rel => exact ⟨d + 1, by go_num, by omega, by omega, ⟨m + 1, HT2, t3, ho3, hB3, by omega⟩⟩
                    case measure => (simp [intOf]; omega)
                  · replace RD := RD.same (by rw [show rD n a b c d = _ from upTo_step (cellM a b c) hld, cellM, if_neg hdet, List.nil_append])
                    have him : isM a b c d = false := by rw [HIM.out]; exact decide_eq_false hdet
                    go_wp2_with fail
                    refine (IsMatrix_c a b c d _).mono ?_
                    rintro e w2 ⟨rfl, b2⟩
                    rw [him]
                    obtain ⟨m, HT, hml, hown, hB, hws⟩ := RD
                    have hown2 := ownW_below (hown.alloc (Obj.cells #[.int .i64 a, .int .i64 b, .int .i64 c, .int .i64 d] 25)) b2
                    have hB2 : Below w.heap.size w w2 := (by repeat' (first | (with_reducible exact Below.refl _ _) | (with_reducible assumption) | (with_reducible refine below_drewN ?_ _) | (with_reducible refine Below.drew ?_) | (with_reducible refine Below.alloc ?_ ?_ _) | (with_reducible refine Below.setCell ?_ ?_ _) | (with_reducible refine Below.trans ?_ (Below.mono (by with_reducible assumption) ?_)) | go_size | (dsimp only; omega)))
                    have z2 := b2.size
                    simp at z2
                    clear hown hB b2
                    go_wp2
                    go_roundw
                    case rel => exact ⟨d + 1, by go_num, by omega, by omega, ⟨m, HT, hml, hown2, hB2, by omega⟩⟩
                    case measure => (simp [intOf]; omega)
                · replace RD := RD.same (by rw [show rD n a b c d = [] from upTo_end (cellM a b c) hld, List.nil_append])
                  go_wp2
                  go_roundw
                  case rel => exact ⟨c + 1, by go_num, by omega, by omega, RD⟩
                  case measure => (simp [intOf]; omega)
            · replace RC := RC.same (by rw [show rC n a b c = [] from upTo_end _ hlc, List.nil_append])
              go_wp2
              go_roundw
              case rel => exact ⟨b + 1, by go_num, by omega, by omega, RC⟩
              case measure => (simp [intOf]; omega)
        · replace RB := RB.same (by rw [show rB n a b = [] from upTo_end _ hlb, List.nil_append])
          go_wp2
          go_roundw
          case rel => exact ⟨a + 1, by go_num, by omega, by omega, RB⟩
          case measure => (simp [intOf]; omega)
    · replace RA := RA.same (show rA n a = [] from upTo_end _ hla)
      obtain ⟨m, HT, hml, hown, hB, hws⟩ := RA
      rw [show zs.take (4 * m) = zs by have := HT.out; simpa using this] at hown
      go_wp2
      go_returns
      exact ⟨_, rfl, OwnF.of_row (by omega) hown, hB⟩
theorem sMatricesWithin_no (n : Int) (w : World) (h : (decide (0 ≤ n) && decide (n ≤ 3)) = false) :
    Calls Tryz.prog 33 #[.int .i64 n] w fun e w' => ∃ v, e = .returned (.tuple #[v, .int .i64 2]) ∧ OwnF 4 w.heap.size w' v [] ∧ Below w.heap.size w w' := by
  have H := Lib.hid h
  clear h
  go_enter Tryz.func33, Tryz.ntmps33
  go_wp2_with fail
  refine (l01In_c _ _ _ _).mono ?_
  rintro e w2 ⟨rfl, rfl⟩
  rw [H.out]
  go_wp2
  go_returns
  exact ⟨_, rfl, OwnF.nil, Below.refl _ _⟩
set_option maxRecDepth 100000 in
set_option maxHeartbeats 8000000 in
theorem sMatricesWithin_yes (n : Int) (w : World) (h0 : 0 ≤ n) (h3 : n ≤ 3) :
    Calls Tryz.prog 33 #[.int .i64 n] w fun e w' => ∃ v, e = .returned (.tuple #[v, .int .i64 0]) ∧ OwnF 4 w.heap.size w' v (rA n (-n)) ∧ Below w.heap.size w w' := by
  obtain ⟨i0, hi, hz0, hz1, hz2⟩ := info_parts info_M'
  have hr : (decide (0 ≤ n) && decide (n ≤ 3)) = true := by simp; omega
  have HIN := Lib.hid hr
  have hzl := rA_len n h3
  generalize hzs : rA n (-n) = zs at *
  have HZ := Lib.hid hzs
  have hown0 := own_new w w.heap.size 25 4 (Nat.le_refl _)
  clear hr hzs
  go_enter Tryz.func33, Tryz.ntmps33
  go_wp2_with fail
  refine (l01In_c _ _ _ _).mono ?_
  rintro e w2 ⟨rfl, rfl⟩
  rw [HIN.out]
  go_wp2
  go_loopw [4, 5] (fun v x wr => ∃ a : Int, x = .int .i64 a ∧ -n ≤ a ∧ a ≤ n + 1 ∧ RowAt w zs (rA n a) v wr) (fun v x wr => (n + 1 - intOf x).toNat)
  case atStart => exact ⟨-n, rfl, by omega, by omega, ⟨0, Lib.hid (by rw [HZ.out]; simp), by omega, by simpa using hown0, (by repeat' (first | (with_reducible exact Below.refl _ _) | (with_reducible assumption) | (with_reducible refine below_drewN ?_ _) | (with_reducible refine Below.drew ?_) | (with_reducible refine Below.alloc ?_ ?_ _) | (with_reducible refine Below.setCell ?_ ?_ _) | (with_reducible refine Below.trans ?_ (Below.mono (by with_reducible assumption) ?_)) | go_size | (dsimp only; omega))), by simp⟩⟩
  case round =>
    obtain ⟨a, rfl, ha0, ha1, RA⟩ := hrel
    clear hown0
    by_cases hla : a ≤ n
    · replace RA := RA.same (upTo_step (fun a => rB n a (-n)) hla)
      go_wp2
      go_loopw [4, 6] (fun v x wr => ∃ b : Int, x = .int .i64 b ∧ -n ≤ b ∧ b ≤ n + 1 ∧ RowAt w zs (rB n a b ++ rA n (a + 1)) v wr) (fun v x wr => (n + 1 - intOf x).toNat)
      case atStart => exact ⟨-n, rfl, by omega, by omega, RA⟩
      case round =>
        obtain ⟨b, rfl, hb0, hb1, RB⟩ := hrel
        clear RA
        by_cases hlb : b ≤ n
        · replace RB := RB.same (by rw [show rB n a b = _ from upTo_step (fun b => rC n a b (-n)) hlb, List.append_assoc])
          go_wp2
          go_loopw [4, 7] (fun v x wr => ∃ c : Int, x = .int .i64 c ∧ -n ≤ c ∧ c ≤ n + 1 ∧ RowAt w zs (rC n a b c ++ (rB n a (b + 1) ++ rA n (a + 1))) v wr) (fun v x wr => (n + 1 - intOf x).toNat)
          case atStart => exact ⟨-n, rfl, by omega, by omega, RB⟩
          case round =>
            obtain ⟨c, rfl, hc0, hc1, RC⟩ := hrel
            clear RB
            by_cases hlc : c ≤ n
            · replace RC := RC.same (by rw [show rC n a b c = _ from upTo_step (fun c => rD n a b c (-n)) hlc, List.append_assoc])
              go_wp2
              go_loopw [4, 8] (fun v x wr => ∃ d : Int, x = .int .i64 d ∧ -n ≤ d ∧ d ≤ n + 1 ∧ RowAt w zs (rD n a b c d ++ (rC n a b (c + 1) ++ (rB n a (b + 1) ++ rA n (a + 1)))) v wr) (fun v x wr => (n + 1 - intOf x).toNat)
              case atStart => exact ⟨-n, rfl, by omega, by omega, RC⟩
              case round =>
                obtain ⟨d, rfl, hd0, hd1, RD⟩ := hrel
                clear RC
                by_cases hld : d ≤ n
                · have hea := small_ent h3 ha0 hla
                  have heb := small_ent h3 hb0 hlb
                  have hec := small_ent h3 hc0 hlc
                  have hed := small_ent h3 hd0 hld
                  obtain ⟨p0, p1⟩ := ent_mul hea hed
                  obtain ⟨q0, q1⟩ := ent_mul heb hec
                  have him := small_isM (n := n) hea heb hec hed
                  have HIM := Lib.hid him
                  clear hea heb hec hed him
                  by_cases hdet : a * d - b * c = 1
                  · replace RD := RD.same (by rw [show rD n a b c d = _ from upTo_step (cellM a b c) hld, cellM, if_pos hdet, List.append_assoc])
                    obtain ⟨m, HT, hml, hown, hB, hws⟩ := RD
                    obtain ⟨t1, t2, t3⟩ := take_four hml HT.out
                    have HT1 := Lib.hid t1
                    have HT2 := Lib.hid t2
                    clear t1 t2 HT
                    go_wp2_with (at_builtin; refine wpList_append_own _ rfl _ _ 54 rfl w.heap.size 25 i0 (.agg #[.int .i64 0, .int .i64 0, .int .i64 0, .int .i64 0]) 4 32 under_Ms' hi hz0 hz1 hz2 rfl (by decide) _ _ _ rfl (hown.alloc _) ⟨wr.heap.size, 0, none⟩ 1 1 [.int .i64 a, .int .i64 b, .int .i64 c, .int .i64 d] rfl rfl (World.news_of_block (cs := #[.int .i64 a, .int .i64 b, .int .i64 c, .int .i64 d]) (t := 25) (fr := (0, 0)) (heap_alloc_new wr _)) (by simp [Value.oneCell']) (by unfold maxLen; omega) (by omega) (by simp; omega) ?_; intro v' w3 hown3 hgrow3 hnil3; obtain ⟨hB3, hs3, fc3, ff3⟩ := app_after hown hgrow3 hB (by omega) (by omega); clear fc3 ff3 hgrow3 hnil3)
                    have ho3 : w3.ownsRow w.heap.size 25 4 v' (m + 1) ((zs.take (4 * (m + 1))).map (Value.int .i64)) := by
                      rw [HT1.out]; simpa using hown3
                    go_roundw
                    case rel => exact ⟨d + 1, by go_num, by omega, by omega, ⟨m + 1, HT2, t3, ho3, hB3, by omega⟩⟩
                    case measure => (simp [intOf]; omega)
                  · replace RD := RD.same (by rw [show rD n a b c d = _ from upTo_step (cellM a b c) hld, cellM, if_neg hdet, List.nil_append])
                    go_wp2
                    go_roundw
                    case rel => exact ⟨d + 1, by go_num, by omega, by omega, RD⟩
                    case measure => (simp [intOf]; omega)
                · replace RD := RD.same (by rw [show rD n a b c d = [] from upTo_end (cellM a b c) hld, List.nil_append])
                  go_wp2
                  go_roundw
                  case rel => exact ⟨c + 1, by go_num, by omega, by omega, RD⟩
                  case measure => (simp [intOf]; omega)
            · replace RC := RC.same (by rw [show rC n a b c = [] from upTo_end _ hlc, List.nil_append])
              go_wp2
              go_roundw
              case rel => exact ⟨b + 1, by go_num, by omega, by omega, RC⟩
              case measure => (simp [intOf]; omega)
        · replace RB := RB.same (by rw [show rB n a b = [] from upTo_end _ hlb, List.nil_append])
          go_wp2
          go_roundw
          case rel => exact ⟨a + 1, by go_num, by omega, by omega, RB⟩
          case measure => (simp [intOf]; omega)
    · replace RA := RA.same (show rA n a = [] from upTo_end _ hla)
      obtain ⟨m, HT, hml, hown, hB, hws⟩ := RA
      rw [show zs.take (4 * m) = zs by have := HT.out; simpa using this] at hown
      go_wp2
      go_returns
      exact ⟨_, rfl, OwnF.of_row (by omega) hown, hB⟩
end Go.Proofs.YtlkhhpckgcdeeaaGreatDoor
