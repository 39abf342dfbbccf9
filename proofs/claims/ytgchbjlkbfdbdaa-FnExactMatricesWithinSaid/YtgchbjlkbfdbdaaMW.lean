/- MatricesWithin. -/
import Derived.Test.YtgchbjlkbfdbdaaFL
import Derived.Deep.AppendLies
import Derived.Deep.DeepCutAuto
namespace Go.Proofs.Ytgchbjlkbfdbdaa
open Go.RowKit
set_option linter.unusedVariables false
set_option linter.unusedSimpArgs false
attribute [local go_sem] run_min_int4 run_max_int4
/-- the parts of x, x + 1, .. n in a row -/
def upTo (n : Int) (F : Int → List Int) (x : Int) : List Int := if x ≤ n then F x ++ upTo n F (x + 1) else []
termination_by (n + 1 - x).toNat
decreasing_by omega
theorem upTo_step {n x : Int} (F : Int → List Int) (h : x ≤ n) : upTo n F x = F x ++ upTo n F (x + 1) := by
  rw [upTo, if_pos h]
theorem upTo_end {n x : Int} (F : Int → List Int) (h : ¬ x ≤ n) : upTo n F x = [] := by
  rw [upTo, if_neg h]
theorem upTo_len {n : Int} (F : Int → List Int) (K : Nat) (hF : ∀ x, (F x).length ≤ K) : ∀ m : Nat, ∀ x : Int, n + 1 - x ≤ m → (upTo n F x).length ≤ K * m := by
  intro m
  induction m with
  | zero => intro x hx; rw [upTo_end F (by omega)]; simp
  | succ m ih =>
    intro x hx
    by_cases h : x ≤ n
    · rw [upTo_step F h, List.length_append, Nat.mul_succ]
      have h1 := hF x
      have h2 := ih (x + 1) (by omega)
      omega
    · rw [upTo_end F h]; simp
def cellM (a b c d : Int) : List Int := if a * d - b * c = 1 then [a, b, c, d] else []
def rD (n a b c d : Int) : List Int := upTo n (cellM a b c) d
def rC (n a b c : Int) : List Int := upTo n (fun c => rD n a b c (-n)) c
def rB (n a b : Int) : List Int := upTo n (fun b => rC n a b (-n)) b
def rA (n a : Int) : List Int := upTo n (fun a => rB n a (-n)) a
theorem rA_len (n : Int) (hn : n ≤ 3) : (rA n (-n)).length ≤ 9604 := by
  have h1 : ∀ a b c x, (cellM a b c x).length ≤ 4 := by
    intro a b c x; unfold cellM; split <;> simp
  have h2 : ∀ a b c, (rD n a b c (-n)).length ≤ 4 * 7 := fun a b c => upTo_len _ 4 (h1 a b c) 7 (-n) (by omega)
  have h3 : ∀ a b, (rC n a b (-n)).length ≤ 4 * 7 * 7 := fun a b => upTo_len _ _ (h2 a b) 7 (-n) (by omega)
  have h4 : ∀ a, (rB n a (-n)).length ≤ 4 * 7 * 7 * 7 := fun a => upTo_len _ _ (h3 a) 7 (-n) (by omega)
  exact upTo_len _ _ h4 7 (-n) (by omega)
theorem under_Ms' : Try.prog.underlying 22 = some (.slice 47) := by kernel_rfl
theorem info_M' : (Try.prog.info? 47).map (fun i => (i.zero, i.size, i.bytes)) = some (some (.agg #[.int .i64 0, .int .i64 0, .int .i64 0, .int .i64 0]), 4, 32) := by kernel_rfl
theorem ownW_drew {w : World} {base n size : Nat} {e : TypeId} {v : Value} {xs : List Value} (h : w.ownsRow base e size v n xs) : w.drew.ownsRow base e size v n xs := h
theorem ownW_below {w w' : World} {base n size : Nat} {e : TypeId} {v : Value} {xs : List Value} (h : w.ownsRow base e size v n xs) (hb : Below w.heap.size w w') : w'.ownsRow base e size v n xs := by
  have hlt := h.lt
  obtain ⟨h1, h2⟩ := h
  refine ⟨h1, h2.imp id (fun ⟨g, cap, cur, h1, h2, h3, h4⟩ => ⟨g, cap, cur, h1, h2, ?_, h4⟩)⟩
  rw [hb.block g (by have := (hlt g (by rw [h1]; rfl)).2; omega)]; exact h3
/-- the row so far, and what is to come -/
def RowAt (w : World) (zs rest : List Int) (v : Value) (wr : World) : Prop :=
  ∃ m, Hid (zs.take (4 * m) ++ rest = zs) ∧ 4 * m ≤ zs.length ∧ wr.ownsRow w.heap.size 47 4 v m ((zs.take (4 * m)).map (Value.int .i64)) ∧ Below w.heap.size w wr ∧ w.heap.size < wr.heap.size
theorem RowAt.same {w : World} {zs r1 r2 : List Int} {v : Value} {wr : World} (h : RowAt w zs r1 v wr) (e : r1 = r2) : RowAt w zs r2 v wr := e ▸ h
theorem RowAt.drew {w : World} {zs r1 : List Int} {v : Value} {wr : World} (h : RowAt w zs r1 v wr) : RowAt w zs r1 v wr.drew := by
  obtain ⟨m, h1, h2, h3, h4, h5⟩ := h
  exact ⟨m, h1, h2, ownW_drew h3, Below.drew h4, by simpa using h5⟩
theorem take_four {zs l : List Int} {a b c d : Int} {m : Nat} (hm : 4 * m ≤ zs.length) (h : zs.take (4 * m) ++ a :: b :: c :: d :: l = zs) : zs.take (4 * (m + 1)) = zs.take (4 * m) ++ [a, b, c, d] ∧ zs.take (4 * (m + 1)) ++ l = zs ∧ 4 * (m + 1) ≤ zs.length := by
  have hl : (zs.take (4 * m)).length = 4 * m := by rw [List.length_take]; omega
  have e1 : zs.take (4 * (m + 1)) = zs.take (4 * m) ++ [a, b, c, d] := by
    conv => lhs; rw [← h]
    rw [show 4 * (m + 1) = (zs.take (4 * m)).length + 4 by omega, List.take_length_add_append]
    rfl
  have hlen := congrArg List.length h
  simp at hlen
  exact ⟨e1, by rw [e1, List.append_assoc]; exact h, by omega⟩
theorem small_ent {n x : Int} (hn : n ≤ 3) (h0 : -n ≤ x) (h1 : x ≤ n) : ent x = true := ent_iff.mpr ⟨by omega, by omega⟩
theorem small_isM {n a b c d : Int} (ha : ent a = true) (hb : ent b = true) (hc : ent c = true) (hd : ent d = true) : isM a b c d = decide (a * d - b * c = 1) := by
  unfold isM; rw [ha, hb, hc, hd]; rfl
theorem MatricesWithin_no (n : Int) (w : World) (h : (decide (0 ≤ n) && decide (n ≤ 3)) = false) :
    Calls Try.prog 11 #[.int .i64 n] w fun e w' => ∃ v, e = .returned (.tuple #[v, .int .i64 2]) ∧ OwnF 4 w.heap.size w' v [] ∧ Below w.heap.size w w' := by
  have H := Lib.hid h
  clear h
  go_enter Try.func11, Try.ntmps11
  go_wp2_with fail
  refine (within_c _ _ _ _).mono ?_
  rintro e w2 ⟨rfl, rfl⟩
  rw [H.out]
  go_wp2
  go_returns
  exact ⟨_, rfl, OwnF.nil, Below.refl _ _⟩
set_option maxRecDepth 100000 in
set_option maxHeartbeats 8000000 in
theorem MatricesWithin_yes (n : Int) (w : World) (h0 : 0 ≤ n) (h3 : n ≤ 3) :
    Calls Try.prog 11 #[.int .i64 n] w fun e w' => ∃ v, e = .returned (.tuple #[v, .int .i64 0]) ∧ OwnF 4 w.heap.size w' v (rA n (-n)) ∧ Below w.heap.size w w' := by
  obtain ⟨i0, hi, hz0, hz1, hz2⟩ := info_parts info_M'
  have hr : (decide (0 ≤ n) && decide (n ≤ 3)) = true := by simp; omega
  have HIN := Lib.hid hr
  have hzl := rA_len n h3
  generalize hzs : rA n (-n) = zs at *
  have HZ := Lib.hid hzs
  have hown0 := own_new w w.heap.size 47 4 (Nat.le_refl _)
  clear hr hzs
  go_enter Try.func11, Try.ntmps11
  go_wp2_with fail
  refine (within_c _ _ _ _).mono ?_
  rintro e w2 ⟨rfl, rfl⟩
  rw [HIN.out]
  go_wp2
  go_loopw [4, 5] (fun v x wr => ∃ a : Int, x = .int .i64 a ∧ -n ≤ a ∧ a ≤ n + 1 ∧ RowAt w zs (rA n a) v wr) (fun v x wr => (n + 1 - intOf x).toNat)
  case atStart => exact ⟨-n, rfl, by omega, by omega, ⟨0, Lib.hid (by rw [HZ.out]; simp), by omega, by simpa using hown0, (by repeat' (first | (with_reducible exact Below.refl _ _) | (with_reducible assumption) | (with_reducible refine below_drewN ?_ _) | (with_reducible refine Below.drew ?_) | (with_reducible refine Below.alloc ?_ ?_ _) | (with_reducible refine Below.setCell ?_ ?_ _) | (with_reducible refine Below.trans ?_ (Below.mono (by with_reducible assumption) ?_)) | go_size | (dsimp only; omega))), by simp⟩⟩
  case round =>
    obtain ⟨a, rfl, ha0, ha1, RA⟩ := hrel
    clear hown0
    by_cases hla : a ≤ n
    · replace RA := RA.same (upTo_step (fun a => rB n a (-n)) hla)
      go_wp2
      go_loopw [4, 6] (fun v x wr => ∃ b : Int, x = .int .i64 b ∧ -n ≤ b ∧ b ≤ n + 1 ∧ RowAt w zs (rB n a b ++ rA n (a + 1)) v wr) (fun v x wr => (n + 1 - intOf x).toNat)
      case atStart => exact ⟨-n, rfl, by omega, by omega, RA⟩
      case round =>
        obtain ⟨b, rfl, hb0, hb1, RB⟩ := hrel
        clear RA
        by_cases hlb : b ≤ n
        · replace RB := RB.same (by rw [show rB n a b = _ from upTo_step (fun b => rC n a b (-n)) hlb, List.append_assoc])
          go_wp2
          go_loopw [4, 7] (fun v x wr => ∃ c : Int, x = .int .i64 c ∧ -n ≤ c ∧ c ≤ n + 1 ∧ RowAt w zs (rC n a b c ++ (rB n a (b + 1) ++ rA n (a + 1))) v wr) (fun v x wr => (n + 1 - intOf x).toNat)
          case atStart => exact ⟨-n, rfl, by omega, by omega, RB⟩
          case round =>
            obtain ⟨c, rfl, hc0, hc1, RC⟩ := hrel
            clear RB
            by_cases hlc : c ≤ n
            · replace RC := RC.same (by rw [show rC n a b c = _ from upTo_step (fun c => rD n a b c (-n)) hlc, List.append_assoc])
              go_wp2
              go_loopw [4, 8] (fun v x wr => ∃ d : Int, x = .int .i64 d ∧ -n ≤ d ∧ d ≤ n + 1 ∧ RowAt w zs (rD n a b c d ++ (rC n a b (c + 1) ++ (rB n a (b + 1) ++ rA n (a + 1)))) v wr) (fun v x wr => (n + 1 - intOf x).toNat)
              case atStart => exact ⟨-n, rfl, by omega, by omega, RC⟩
              case round =>
                obtain ⟨d, rfl, hd0, hd1, RD⟩ := hrel
                clear RC
                by_cases hld : d ≤ n
                · have hea := small_ent h3 ha0 hla
                  have heb := small_ent h3 hb0 hlb
                  have hec := small_ent h3 hc0 hlc
                  have hed := small_ent h3 hd0 hld
                  obtain ⟨p0, p1⟩ := ent_mul hea hed
                  obtain ⟨q0, q1⟩ := ent_mul heb hec
                  have him := small_isM (n := n) hea heb hec hed
                  have HIM := Lib.hid him
                  clear hea heb hec hed him
                  by_cases hdet : a * d - b * c = 1
                  · replace RD := RD.same (by rw [show rD n a b c d = _ from upTo_step (cellM a b c) hld, cellM, if_pos hdet, List.append_assoc])
                    obtain ⟨m, HT, hml, hown, hB, hws⟩ := RD
                    obtain ⟨t1, t2, t3⟩ := take_four hml HT.out
                    have HT1 := Lib.hid t1
                    have HT2 := Lib.hid t2
                    clear t1 t2 HT
                    have him : isM a b c d = true := by rw [HIM.out]; exact decide_eq_true hdet
                    go_wp2_with fail
                    refine (IsMatrix_c a b c d _).mono ?_
                    rintro e w2 ⟨rfl, b2⟩
                    rw [him]
                    have hown2 := ownW_below (hown.alloc (Obj.cells #[.int .i64 a, .int .i64 b, .int .i64 c, .int .i64 d] 47)) b2
                    have zzb2 := b2.size; (try simp at zzb2); have zb2_0 : wr.heap.size < w2.heap.size := (by omega); have kcb2_0 : ∀ o, w2.cell? ⟨wr.heap.size, o, none⟩ = _ := fun o => b2.cell (p := ⟨wr.heap.size, o, none⟩) (by go_size); have kfb2_0 : ∀ o, w2.frozen? ⟨wr.heap.size, o, none⟩ = _ := fun o => b2.frozen (p := ⟨wr.heap.size, o, none⟩) (by go_size); clear zzb2
                    have hB2 : Below w.heap.size w w2 := (by repeat' (first | (with_reducible exact Below.refl _ _) | (with_reducible assumption) | (with_reducible refine below_drewN ?_ _) | (with_reducible refine Below.drew ?_) | (with_reducible refine Below.alloc ?_ ?_ _) | (with_reducible refine Below.setCell ?_ ?_ _) | (with_reducible refine Below.trans ?_ (Below.mono (by with_reducible assumption) ?_)) | go_size | (dsimp only; omega)))
                    have z2 := b2.size
                    clear hown hB b2
                    go_wp2_with (at_builtin; refine wpList_append_own _ rfl _ _ 22 rfl w.heap.size 47 i0 (.agg #[.int .i64 0, .int .i64 0, .int .i64 0, .int .i64 0]) 4 32 under_Ms' hi hz0 hz1 hz2 rfl (by decide) _ _ _ rfl (hown2.alloc _) ⟨w2.heap.size, 0, none⟩ 1 1 [.int .i64 a, .int .i64 b, .int .i64 c, .int .i64 d] rfl rfl (World.news_of_block (cs := #[.int .i64 a, .int .i64 b, .int .i64 c, .int .i64 d]) (t := 47) (fr := (0, 0)) (heap_alloc_new w2 _)) (by simp [Value.oneCell']) (by unfold maxLen; omega) (by omega) (by simp; omega) ?_; intro v' w3 hown3 hgrow3 hnil3; obtain ⟨hB3, hs3, fc3, ff3⟩ := app_after hown2 hgrow3 hB2 (by omega) (by omega); clear fc3 ff3 hgrow3 hnil3)
                    have ho3 : w3.ownsRow w.heap.size 47 4 v' (m + 1) ((zs.take (4 * (m + 1))).map (Value.int .i64)) := by
                      rw [HT1.out]; simpa using hown3
                    go_roundw
                    case rel => exact ⟨d + 1, by go_num, by omega, by omega, ⟨m + 1, HT2, t3, ho3, hB3, by omega⟩⟩
                    case measure => (simp [intOf]; omega)
                  · replace RD := RD.same (by rw [show rD n a b c d = _ from upTo_step (cellM a b c) hld, cellM, if_neg hdet, List.nil_append])
                    have him : isM a b c d = false := by rw [HIM.out]; exact decide_eq_false hdet
                    go_wp2_with fail
                    refine (IsMatrix_c a b c d _).mono ?_
                    rintro e w2 ⟨rfl, b2⟩
                    rw [him]
                    obtain ⟨m, HT, hml, hown, hB, hws⟩ := RD
                    have hown2 := ownW_below (hown.alloc (Obj.cells #[.int .i64 a, .int .i64 b, .int .i64 c, .int .i64 d] 47)) b2
                    have hB2 : Below w.heap.size w w2 := (by repeat' (first | (with_reducible exact Below.refl _ _) | (with_reducible assumption) | (with_reducible refine below_drewN ?_ _) | (with_reducible refine Below.drew ?_) | (with_reducible refine Below.alloc ?_ ?_ _) | (with_reducible refine Below.setCell ?_ ?_ _) | (with_reducible refine Below.trans ?_ (Below.mono (by with_reducible assumption) ?_)) | go_size | (dsimp only; omega)))
                    have z2 := b2.size
                    simp at z2
                    clear hown hB b2
                    go_wp2
                    go_roundw
                    case rel => exact ⟨d + 1, by go_num, by omega, by omega, ⟨m, HT, hml, hown2, hB2, by omega⟩⟩
                    case measure => (simp [intOf]; omega)
                · replace RD := RD.same (by rw [show rD n a b c d = [] from upTo_end (cellM a b c) hld, List.nil_append])
                  go_wp2
                  go_roundw
                  case rel => exact ⟨c + 1, by go_num, by omega, by omega, RD⟩
                  case measure => (simp [intOf]; omega)
            · replace RC := RC.same (by rw [show rC n a b c = [] from upTo_end _ hlc, List.nil_append])
              go_wp2
              go_roundw
              case rel => exact ⟨b + 1, by go_num, by omega, by omega, RC⟩
              case measure => (simp [intOf]; omega)
        · replace RB := RB.same (by rw [show rB n a b = [] from upTo_end _ hlb, List.nil_append])
          go_wp2
          go_roundw
          case rel => exact ⟨a + 1, by go_num, by omega, by omega, RB⟩
          case measure => (simp [intOf]; omega)
    · replace RA := RA.same (show rA n a = [] from upTo_end _ hla)
      obtain ⟨m, HT, hml, hown, hB, hws⟩ := RA
      rw [show zs.take (4 * m) = zs by have := HT.out; simpa using this] at hown
      go_wp2
      go_returns
      exact ⟨_, rfl, OwnF.of_row (by omega) hown, hB⟩
theorem sMatricesWithin_no (n : Int) (w : World) (h : (decide (0 ≤ n) && decide (n ≤ 3)) = false) :
    Calls Try.prog 10 #[.int .i64 n] w fun e w' => ∃ v, e = .returned (.tuple #[v, .int .i64 2]) ∧ OwnF 4 w.heap.size w' v [] ∧ Below w.heap.size w w' := by
  have H := Lib.hid h
  clear h
  go_enter Try.func10, Try.ntmps10
  go_wp2_with fail
  refine (l01In_c _ _ _ _).mono ?_
  rintro e w2 ⟨rfl, rfl⟩
  rw [H.out]
  go_wp2
  go_returns
  exact ⟨_, rfl, OwnF.nil, Below.refl _ _⟩
set_option maxRecDepth 100000 in
set_option maxHeartbeats 8000000 in
theorem sMatricesWithin_yes (n : Int) (w : World) (h0 : 0 ≤ n) (h3 : n ≤ 3) :
    Calls Try.prog 10 #[.int .i64 n] w fun e w' => ∃ v, e = .returned (.tuple #[v, .int .i64 0]) ∧ OwnF 4 w.heap.size w' v (rA n (-n)) ∧ Below w.heap.size w w' := by
  obtain ⟨i0, hi, hz0, hz1, hz2⟩ := info_parts info_M'
  have hr : (decide (0 ≤ n) && decide (n ≤ 3)) = true := by simp; omega
  have HIN := Lib.hid hr
  have hzl := rA_len n h3
  generalize hzs : rA n (-n) = zs at *
  have HZ := Lib.hid hzs
  have hown0 := own_new w w.heap.size 47 4 (Nat.le_refl _)
  clear hr hzs
  go_enter Try.func10, Try.ntmps10
  go_wp2_with fail
  refine (l01In_c _ _ _ _).mono ?_
  rintro e w2 ⟨rfl, rfl⟩
  rw [HIN.out]
  go_wp2
  go_loopw [4, 5] (fun v x wr => ∃ a : Int, x = .int .i64 a ∧ -n ≤ a ∧ a ≤ n + 1 ∧ RowAt w zs (rA n a) v wr) (fun v x wr => (n + 1 - intOf x).toNat)
  case atStart => exact ⟨-n, rfl, by omega, by omega, ⟨0, Lib.hid (by rw [HZ.out]; simp), by omega, by simpa using hown0, (by repeat' (first | (with_reducible exact Below.refl _ _) | (with_reducible assumption) | (with_reducible refine below_drewN ?_ _) | (with_reducible refine Below.drew ?_) | (with_reducible refine Below.alloc ?_ ?_ _) | (with_reducible refine Below.setCell ?_ ?_ _) | (with_reducible refine Below.trans ?_ (Below.mono (by with_reducible assumption) ?_)) | go_size | (dsimp only; omega))), by simp⟩⟩
  case round =>
    obtain ⟨a, rfl, ha0, ha1, RA⟩ := hrel
    clear hown0
    by_cases hla : a ≤ n
    · replace RA := RA.same (upTo_step (fun a => rB n a (-n)) hla)
      go_wp2
      go_loopw [4, 6] (fun v x wr => ∃ b : Int, x = .int .i64 b ∧ -n ≤ b ∧ b ≤ n + 1 ∧ RowAt w zs (rB n a b ++ rA n (a + 1)) v wr) (fun v x wr => (n + 1 - intOf x).toNat)
      case atStart => exact ⟨-n, rfl, by omega, by omega, RA⟩
      case round =>
        obtain ⟨b, rfl, hb0, hb1, RB⟩ := hrel
        clear RA
        by_cases hlb : b ≤ n
        · replace RB := RB.same (by rw [show rB n a b = _ from upTo_step (fun b => rC n a b (-n)) hlb, List.append_assoc])
          go_wp2
          go_loopw [4, 7] (fun v x wr => ∃ c : Int, x = .int .i64 c ∧ -n ≤ c ∧ c ≤ n + 1 ∧ RowAt w zs (rC n a b c ++ (rB n a (b + 1) ++ rA n (a + 1))) v wr) (fun v x wr => (n + 1 - intOf x).toNat)
          case atStart => exact ⟨-n, rfl, by omega, by omega, RB⟩
          case round =>
            obtain ⟨c, rfl, hc0, hc1, RC⟩ := hrel
            clear RB
            by_cases hlc : c ≤ n
            · replace RC := RC.same (by rw [show rC n a b c = _ from upTo_step (fun c => rD n a b c (-n)) hlc, List.append_assoc])
              go_wp2
              go_loopw [4, 8] (fun v x wr => ∃ d : Int, x = .int .i64 d ∧ -n ≤ d ∧ d ≤ n + 1 ∧ RowAt w zs (rD n a b c d ++ (rC n a b (c + 1) ++ (rB n a (b + 1) ++ rA n (a + 1)))) v wr) (fun v x wr => (n + 1 - intOf x).toNat)
              case atStart => exact ⟨-n, rfl, by omega, by omega, RC⟩
              case round =>
                obtain ⟨d, rfl, hd0, hd1, RD⟩ := hrel
                clear RC
                by_cases hld : d ≤ n
                · have hea := small_ent h3 ha0 hla
                  have heb := small_ent h3 hb0 hlb
                  have hec := small_ent h3 hc0 hlc
                  have hed := small_ent h3 hd0 hld
                  obtain ⟨p0, p1⟩ := ent_mul hea hed
                  obtain ⟨q0, q1⟩ := ent_mul heb hec
                  have him := small_isM (n := n) hea heb hec hed
                  have HIM := Lib.hid him
                  clear hea heb hec hed him
                  by_cases hdet : a * d - b * c = 1
                  · replace RD := RD.same (by rw [show rD n a b c d = _ from upTo_step (cellM a b c) hld, cellM, if_pos hdet, List.append_assoc])
                    obtain ⟨m, HT, hml, hown, hB, hws⟩ := RD
                    obtain ⟨t1, t2, t3⟩ := take_four hml HT.out
                    have HT1 := Lib.hid t1
                    have HT2 := Lib.hid t2
                    clear t1 t2 HT
                    go_wp2_with (at_builtin; refine wpList_append_own _ rfl _ _ 22 rfl w.heap.size 47 i0 (.agg #[.int .i64 0, .int .i64 0, .int .i64 0, .int .i64 0]) 4 32 under_Ms' hi hz0 hz1 hz2 rfl (by decide) _ _ _ rfl (hown.alloc _) ⟨wr.heap.size, 0, none⟩ 1 1 [.int .i64 a, .int .i64 b, .int .i64 c, .int .i64 d] rfl rfl (World.news_of_block (cs := #[.int .i64 a, .int .i64 b, .int .i64 c, .int .i64 d]) (t := 47) (fr := (0, 0)) (heap_alloc_new wr _)) (by simp [Value.oneCell']) (by unfold maxLen; omega) (by omega) (by simp; omega) ?_; intro v' w3 hown3 hgrow3 hnil3; obtain ⟨hB3, hs3, fc3, ff3⟩ := app_after hown hgrow3 hB (by omega) (by omega); clear fc3 ff3 hgrow3 hnil3)
                    have ho3 : w3.ownsRow w.heap.size 47 4 v' (m + 1) ((zs.take (4 * (m + 1))).map (Value.int .i64)) := by
                      rw [HT1.out]; simpa using hown3
                    go_roundw
                    case rel => exact ⟨d + 1, by go_num, by omega, by omega, ⟨m + 1, HT2, t3, ho3, hB3, by omega⟩⟩
                    case measure => (simp [intOf]; omega)
                  · replace RD := RD.same (by rw [show rD n a b c d = _ from upTo_step (cellM a b c) hld, cellM, if_neg hdet, List.nil_append])
                    go_wp2
                    go_roundw
                    case rel => exact ⟨d + 1, by go_num, by omega, by omega, RD⟩
                    case measure => (simp [intOf]; omega)
                · replace RD := RD.same (by rw [show rD n a b c d = [] from upTo_end (cellM a b c) hld, List.nil_append])
                  go_wp2
                  go_roundw
                  case rel => exact ⟨c + 1, by go_num, by omega, by omega, RD⟩
                  case measure => (simp [intOf]; omega)
            · replace RC := RC.same (by rw [show rC n a b c = [] from upTo_end _ hlc, List.nil_append])
              go_wp2
              go_roundw
              case rel => exact ⟨b + 1, by go_num, by omega, by omega, RC⟩
              case measure => (simp [intOf]; omega)
        · replace RB := RB.same (by rw [show rB n a b = [] from upTo_end _ hlb, List.nil_append])
          go_wp2
          go_roundw
          case rel => exact ⟨a + 1, by go_num, by omega, by omega, RB⟩
          case measure => (simp [intOf]; omega)
    · replace RA := RA.same (show rA n a = [] from upTo_end _ hla)
      obtain ⟨m, HT, hml, hown, hB, hws⟩ := RA
      rw [show zs.take (4 * m) = zs by have := HT.out; simpa using this] at hown
      go_wp2
      go_returns
      exact ⟨_, rfl, OwnF.of_row (by omega) hown, hB⟩
theorem FnExactMatricesWithin_w (n0 : Int) (w0 : (Lit.int .i64 n0).wf = true) (W : World) :
    Calls Try.prog 3 #[.int .i64 n0] W fun e w' => e = .returned (.bool true) ∧ Below W.heap.size W w' := by
  clear w0
  cases h : (decide (0 ≤ n0) && decide (n0 ≤ 3))
  · exact MatricesWithin_law n0 2 W [] (by simp) (Lib.hid (fun w => MatricesWithin_no _ w h)) (Lib.hid (fun w => sMatricesWithin_no _ w h))
  · have hb : 0 ≤ n0 ∧ n0 ≤ 3 := by simpa using h
    have hl := rA_len n0 hb.2
    exact MatricesWithin_law n0 0 W (rA n0 (-n0)) (by omega) (Lib.hid (fun w => MatricesWithin_yes _ w hb.1 hb.2)) (Lib.hid (fun w => sMatricesWithin_yes _ w hb.1 hb.2))
end Go.Proofs.Ytgchbjlkbfdbdaa
