/- TierOf, in plain Lean: the fractions of a tier, the paths, their order; the reference's way. -/
import Derived.Test.YtandannjdhnlmaaPF
import Derived.Test.YtandannjdhnlmaaFL
import Derived.Test.YtandannjdhnlmaaFA
namespace Go.Proofs.Ytandannjdhnlmaa
open Go.RowKit
set_option linter.unusedVariables false
set_option linter.unusedSimpArgs false
def tierP : Nat → Int → Int → Int → Int → List (Int × Int)
  | 0, a, b, c, d => [(a + c, b + d)]
  | n + 1, a, b, c, d => tierP n a b (a + c) (b + d) ++ tierP n (a + c) (b + d) c d
theorem tierP_len : ∀ (n : Nat) (a b c d : Int), (tierP n a b c d).length = 2 ^ n
  | 0, _, _, _, _ => rfl
  | n + 1, a, b, c, d => by
    rw [tierP, List.length_append, tierP_len n, tierP_len n, Nat.pow_succ]; omega
def flatQ (l : List (Int × Int)) : List Int := l.flatMap fun x => [x.1, x.2]
theorem flatQ_append (l m : List (Int × Int)) : flatQ (l ++ m) = flatQ l ++ flatQ m := by simp [flatQ]
theorem flatQ_len (l : List (Int × Int)) : (flatQ l).length = l.length * 2 := by
  induction l with
  | nil => rfl
  | cons x l ih =>
    have : flatQ (x :: l) = x.1 :: x.2 :: flatQ l := rfl
    rw [this]; simp only [List.length_cons, ih]; omega
def nextPaths (l : List (List UInt8)) : List (List UInt8) := l.flatMap fun p => [p ++ [76], p ++ [82]]
def paths : Nat → List (List UInt8)
  | 0 => [[]]
  | n + 1 => nextPaths (paths n)
theorem nextPaths_append (l m : List (List UInt8)) : nextPaths (l ++ m) = nextPaths l ++ nextPaths m := by simp [nextPaths]
theorem nextPaths_len (l : List (List UInt8)) : (nextPaths l).length = l.length * 2 := by
  induction l with
  | nil => rfl
  | cons x l ih =>
    have : nextPaths (x :: l) = (x ++ [76]) :: (x ++ [82]) :: nextPaths l := rfl
    rw [this]; simp only [List.length_cons, ih]; omega
theorem paths_len : ∀ n : Nat, (paths n).length = 2 ^ n
  | 0 => rfl
  | n + 1 => by rw [paths, nextPaths_len, paths_len n, Nat.pow_succ]
theorem paths_word : ∀ (n : Nat), ∀ p ∈ paths n, p.length = n
  | 0, p, h => by have : p = [] := by simpa [paths] using h
                  rw [this]; rfl
  | n + 1, p, h => by
    have h' : ∃ q ∈ paths n, p ∈ [q ++ [76], q ++ [82]] := by simpa [paths, nextPaths, List.mem_flatMap] using h
    obtain ⟨q, hq, hp⟩ := h'
    have := paths_word n q hq
    simp at hp
    rcases hp with rfl | rfl <;> simp [this]
/-- the tier -/
def T (n : Nat) : List (Int × Int) := tierP n 0 1 1 0
theorem T_len (n : Nat) : (T n).length = 2 ^ n := tierP_len n _ _ _ _
theorem tier_paths {n : Nat} (h : n ≤ 7) : (paths n).map (fol 0 1 1 0) = T n := by
  match n, h with
  | 0, _ => show (paths 0).map (fol 0 1 1 0) = T 0; kernel_rfl
  | 1, _ => show (paths 1).map (fol 0 1 1 0) = T 1; kernel_rfl
  | 2, _ => show (paths 2).map (fol 0 1 1 0) = T 2; kernel_rfl
  | 3, _ => show (paths 3).map (fol 0 1 1 0) = T 3; kernel_rfl
  | 4, _ => show (paths 4).map (fol 0 1 1 0) = T 4; kernel_rfl
  | 5, _ => show (paths 5).map (fol 0 1 1 0) = T 5; kernel_rfl
  | 6, _ => show (paths 6).map (fol 0 1 1 0) = T 6; kernel_rfl
  | 7, _ => show (paths 7).map (fol 0 1 1 0) = T 7; kernel_rfl
def lessQ (x y : Int × Int) : Bool := decide (x.1 * y.2 < y.1 * x.2)
def srtQ : List (Int × Int) → Bool
  | [] => true
  | x :: l => l.all (lessQ x) && srtQ l
def smallQ (x : Int × Int) : Bool := decide (0 ≤ x.1) && decide (x.1 ≤ 1000) && decide (0 ≤ x.2) && decide (x.2 ≤ 1000)
theorem T_srt {n : Nat} (h : n ≤ 7) : (srtQ (T n) && (T n).all smallQ) = true := by
  match n, h with
  | 0, _ => show (srtQ (T 0) && (T 0).all smallQ) = true; kernel_rfl
  | 1, _ => show (srtQ (T 1) && (T 1).all smallQ) = true; kernel_rfl
  | 2, _ => show (srtQ (T 2) && (T 2).all smallQ) = true; kernel_rfl
  | 3, _ => show (srtQ (T 3) && (T 3).all smallQ) = true; kernel_rfl
  | 4, _ => show (srtQ (T 4) && (T 4).all smallQ) = true; kernel_rfl
  | 5, _ => show (srtQ (T 5) && (T 5).all smallQ) = true; kernel_rfl
  | 6, _ => show (srtQ (T 6) && (T 6).all smallQ) = true; kernel_rfl
  | 7, _ => show (srtQ (T 7) && (T 7).all smallQ) = true; kernel_rfl
theorem srtQ_lt : ∀ {l : List (Int × Int)}, srtQ l = true → ∀ (i j : Nat) (hj : j < l.length) (hij : i < j), lessQ (l[i]'(by omega)) l[j] = true
  | [], _, i, j, hj, _ => by simp at hj
  | x :: l, h, i, j, hj, hij => by
    simp only [srtQ, Bool.and_eq_true] at h
    match j, hij with
    | j + 1, hij =>
      simp only [List.length_cons] at hj
      match i with
      | 0 => exact List.all_eq_true.mp h.1 _ (List.getElem_mem (by omega : j < l.length))
      | i + 1 => exact srtQ_lt h.2 i j (by omega) (by omega)
theorem own_base {w : World} {base b2 n size : Nat} {e : TypeId} {v : Value} {xs : List Value} (h : w.ownsRow base e size v n xs) (hb : b2 ≤ base) : w.ownsRow b2 e size v n xs :=
  ⟨h.1, h.2.imp id (fun ⟨g, cap, cur, h1, h2, h3, h4⟩ => ⟨g, cap, cur, h1, by omega, h3, h4⟩)⟩
theorem row_news {w : World} {base g n cap size : Nat} {e : TypeId} {xs : List Value} (h : w.ownsRow base e size (.slice (some ⟨g, 0, none⟩) n cap) n xs) : ∀ j u, xs[j]? = some u → w.cell? ((⟨g, 0, none⟩ : Addr).add j) = some u :=
  fun j u hj => World.ownsRow.cells h rfl j u hj
theorem pow2_le {n : Nat} (h : n ≤ 7) : 2 ^ n ≤ 128 := by
  have := Nat.pow_le_pow_right (show 0 < 2 by decide) h
  simpa using this
theorem l03Mediant_t (a b c d : Int) (w : World) (ha0 : 0 ≤ a) (ha1 : a ≤ 2000000000000) (hb0 : 0 ≤ b) (hb1 : b ≤ 2000000000000) (hc0 : 0 ≤ c) (hc1 : c ≤ 2000000000000) (hd0 : 0 ≤ d) (hd1 : d ≤ 2000000000000) (hg : Int.gcd (a + c) (b + d) = 1) (hp : 1 ≤ b + d) :
    Calls Try.prog 17 #[.agg #[.int .i64 a, .int .i64 b], .agg #[.int .i64 c, .int .i64 d]] w fun e w' => e = .returned (.agg #[.int .i64 (a + c), .int .i64 (b + d)]) ∧ Below w.heap.size w w' := by
  obtain ⟨e1, e2⟩ := gcd_red hg hp
  have E1 := Lib.hid e1
  have E2 := Lib.hid e2
  clear e1 e2 hg
  go_enter Try.func17, Try.ntmps17
  go_wp2_with fail
  refine (l01Reduced_c (a + c) (b + d) _ (by omega) (by omega) (by omega) (by omega) (by omega)).mono ?_
  rintro e w2 ⟨rfl, b2⟩
  rw [E1.out, E2.out]
  have zzb2 := b2.size; (try simp at zzb2); have zb2_0 : w.heap.size < w2.heap.size := (by omega); have kcb2_0 : ∀ o, w2.cell? ⟨w.heap.size, o, none⟩ = _ := fun o => b2.cell (p := ⟨w.heap.size, o, none⟩) (by go_size); have kfb2_0 : ∀ o, w2.frozen? ⟨w.heap.size, o, none⟩ = _ := fun o => b2.frozen (p := ⟨w.heap.size, o, none⟩) (by go_size); have zb2_1 : w.heap.size + 1 < w2.heap.size := (by omega); have kcb2_1 : ∀ o, w2.cell? ⟨w.heap.size + 1, o, none⟩ = _ := fun o => b2.cell (p := ⟨w.heap.size + 1, o, none⟩) (by go_size); have kfb2_1 : ∀ o, w2.frozen? ⟨w.heap.size + 1, o, none⟩ = _ := fun o => b2.frozen (p := ⟨w.heap.size + 1, o, none⟩) (by go_size); have zb2_2 : w.heap.size + 2 < w2.heap.size := (by omega); have kcb2_2 : ∀ o, w2.cell? ⟨w.heap.size + 2, o, none⟩ = _ := fun o => b2.cell (p := ⟨w.heap.size + 2, o, none⟩) (by go_size); have kfb2_2 : ∀ o, w2.frozen? ⟨w.heap.size + 2, o, none⟩ = _ := fun o => b2.frozen (p := ⟨w.heap.size + 2, o, none⟩) (by go_size); clear zzb2
  go_wp2
  exact bodyPost_ret (v := .agg #[.int .i64 (a + c), .int .i64 (b + d)]) (by simp only [results, Try.results17]; go_simp) rfl ⟨rfl, (by repeat' (first | (with_reducible exact Below.refl _ _) | (with_reducible assumption) | (with_reducible refine below_drewN ?_ _) | (with_reducible refine Below.drew ?_) | (with_reducible refine Below.alloc ?_ ?_ _) | (with_reducible refine Below.setCell ?_ ?_ _) | (with_reducible refine Below.trans ?_ (Below.mono (by with_reducible assumption) ?_)) | go_size | (dsimp only; omega)))⟩
set_option maxRecDepth 100000 in
set_option maxHeartbeats 8000000 in
theorem l03Tier_c : ∀ (n k : Nat) (a b c d : Int) (w : World), n ≤ 7 → k + n ≤ 40 → Par k a b c d →
    Calls Try.prog 10 #[.agg #[.int .i64 a, .int .i64 b], .agg #[.int .i64 c, .int .i64 d], .int .i64 n] w fun e w' => ∃ g cap, e = .returned (.slice (some ⟨g, 0, none⟩) (2 ^ n) cap) ∧ w'.ownsRow w.heap.size 31 2 (.slice (some ⟨g, 0, none⟩) (2 ^ n) cap) (2 ^ n) ((flatQ (tierP n a b c d)).map (Value.int .i64)) ∧ Below w.heap.size w w'
  | 0, k, a, b, c, d, w, hn, hk, P => by
    obtain ⟨ha1, hb1, hc1, hd1⟩ := P.le (by omega)
    have ha0 := P.a0
    have hb0 := P.b0
    have hc0 := P.c0
    have hd0 := P.d0
    have HG := Lib.hid P.gcd
    have hpos := P.pos
    have KM := Lib.hid (fun w => l03Mediant_t a b c d w ha0 (by omega) hb0 (by omega) hc0 (by omega) hd0 (by omega) HG.out hpos)
    clear P
    go_enter Try.func10, Try.ntmps10
    go_wp2_with fail
    refine (KM.out _).mono ?_
    rintro e w1 ⟨rfl, b1⟩
    have zzb1 := b1.size; (try simp at zzb1); have zb1_0 : w.heap.size < w1.heap.size := (by omega); have kcb1_0 : ∀ o, w1.cell? ⟨w.heap.size, o, none⟩ = _ := fun o => b1.cell (p := ⟨w.heap.size, o, none⟩) (by go_size); have kfb1_0 : ∀ o, w1.frozen? ⟨w.heap.size, o, none⟩ = _ := fun o => b1.frozen (p := ⟨w.heap.size, o, none⟩) (by go_size); have zb1_1 : w.heap.size + 1 < w1.heap.size := (by omega); have kcb1_1 : ∀ o, w1.cell? ⟨w.heap.size + 1, o, none⟩ = _ := fun o => b1.cell (p := ⟨w.heap.size + 1, o, none⟩) (by go_size); have kfb1_1 : ∀ o, w1.frozen? ⟨w.heap.size + 1, o, none⟩ = _ := fun o => b1.frozen (p := ⟨w.heap.size + 1, o, none⟩) (by go_size); clear zzb1
    go_wp2
    go_returns
    have h := ownQ_new (w1.alloc (Obj.cells #[.int .i64 (a + c), .int .i64 (b + d)] 31)) (a + c) (b + d)
    rw [World.size_alloc] at h
    exact ⟨_, _, rfl, own_base h (by omega), (by repeat' (first | (with_reducible exact Below.refl _ _) | (with_reducible assumption) | (with_reducible refine below_drewN ?_ _) | (with_reducible refine Below.drew ?_) | (with_reducible refine Below.alloc ?_ ?_ _) | (with_reducible refine Below.setCell ?_ ?_ _) | (with_reducible refine Below.trans ?_ (Below.mono (by with_reducible assumption) ?_)) | go_size | (dsimp only; omega)))⟩
  | n + 1, k, a, b, c, d, w, hn, hk, P => by
    obtain ⟨i0, hi, hz0, hz1, hz2⟩ := info_parts info_Q
    obtain ⟨ha1, hb1, hc1, hd1⟩ := P.le (by omega)
    have ha0 := P.a0
    have hb0 := P.b0
    have hc0 := P.c0
    have hd0 := P.d0
    have HG := Lib.hid P.gcd
    have hpos := P.pos
    have KM := Lib.hid (fun w => l03Mediant_t a b c d w ha0 (by omega) hb0 (by omega) hc0 (by omega) hd0 (by omega) HG.out hpos)
    obtain ⟨z, hz⟩ : ∃ z : Int, ((n + 1 : Nat) : Int) = z := ⟨_, rfl⟩
    have e1 : (n : Int) = z - 1 := by omega
    have hz1' : 1 ≤ z := by omega
    have hz7 : z ≤ 7 := by omega
    have KL := (fun w => l03Tier_c n (k + 1) a b (a + c) (b + d) w (by omega) (by omega) P.left)
    have KR := (fun w => l03Tier_c n (k + 1) (a + c) (b + d) c d w (by omega) (by omega) P.right)
    rw [e1] at KL KR
    have hp2 := pow2_le (show n ≤ 7 by omega)
    have hp0 : 0 < 2 ^ n := Nat.two_pow_pos n
    have hpe : 2 ^ (n + 1) = 2 ^ n + 2 ^ n := by rw [Nat.pow_succ]; omega
    have e0 : (z == 0) = false := by rw [beq_eq_false_iff_ne]; omega
    have hx1 : (flatQ (tierP n a b (a + c) (b + d))).length = 2 ^ n * 2 := by rw [flatQ_len, tierP_len]
    have hx2 : (flatQ (tierP n (a + c) (b + d) c d)).length = 2 ^ n * 2 := by rw [flatQ_len, tierP_len]
    have hx : flatQ (tierP (n + 1) a b c d) = flatQ (tierP n a b (a + c) (b + d)) ++ flatQ (tierP n (a + c) (b + d) c d) := by rw [tierP, flatQ_append]
    rw [hx, hpe, hz]
    clear hz e1
    have hwr : IntKind.i64.wrap (z - 1) = z - 1 := IntWalk.i64_in _ (by omega)
    have KL := Lib.hid KL
    have KR := Lib.hid KR
    generalize flatQ (tierP n a b (a + c) (b + d)) = xs1 at *
    generalize flatQ (tierP n (a + c) (b + d) c d) = xs2 at *
    generalize 2 ^ n = N at *
    have HX1 := Lib.hid hx1
    have HX2 := Lib.hid hx2
    clear P hx hpe hx1 hx2
    go_enter Try.func10, Try.ntmps10
    go_wp2_with fail
    refine (KM.out _).mono ?_
    rintro e w1 ⟨rfl, b1⟩
    have hB1 : Below w.heap.size w w1 := Below.trans (Below.alloc (Below.alloc (Below.refl _ _) (Nat.le_refl _) _) (by simp) _) (Below.mono b1 (by simp only [World.size_alloc]; omega))
    have zzb1 := b1.size; (try simp at zzb1); have zb1_0 : w.heap.size < w1.heap.size := (by omega); have kcb1_0 : ∀ o, w1.cell? ⟨w.heap.size, o, none⟩ = _ := fun o => b1.cell (p := ⟨w.heap.size, o, none⟩) (by go_size); have kfb1_0 : ∀ o, w1.frozen? ⟨w.heap.size, o, none⟩ = _ := fun o => b1.frozen (p := ⟨w.heap.size, o, none⟩) (by go_size); have zb1_1 : w.heap.size + 1 < w1.heap.size := (by omega); have kcb1_1 : ∀ o, w1.cell? ⟨w.heap.size + 1, o, none⟩ = _ := fun o => b1.cell (p := ⟨w.heap.size + 1, o, none⟩) (by go_size); have kfb1_1 : ∀ o, w1.frozen? ⟨w.heap.size + 1, o, none⟩ = _ := fun o => b1.frozen (p := ⟨w.heap.size + 1, o, none⟩) (by go_size); clear zzb1
    go_wp2
    go_region_held3 (fun w' => w'.cell? ⟨w.heap.size, 0, none⟩ = some (.int .i64 a) ∧ w'.cell? ⟨w.heap.size, 1, none⟩ = some (.int .i64 b) ∧ w'.cell? ⟨w.heap.size + 1, 0, none⟩ = some (.int .i64 c) ∧ w'.cell? ⟨w.heap.size + 1, 1, none⟩ = some (.int .i64 d) ∧ w'.cell? ⟨w1.heap.size, 0, none⟩ = some (.int .i64 (a + c)) ∧ w'.cell? ⟨w1.heap.size, 1, none⟩ = some (.int .i64 (b + d))) (first | go_keep | (go_split_ands; refine ⟨?_, ?_, ?_, ?_, ?_, ?_⟩ <;> first | (with_reducible assumption) | (with_reducible exact held_cell hb (by with_reducible assumption)) | ((rw [hgrow.cell_far _ (by dsimp only; omega) (by simp [Value.ownBlock]; omega)]); assumption))) (first | (go_at_call_of 10 (Value.agg #[Value.int IntKind.i64 a, Value.int IntKind.i64 b]); refine (KL.out _).mono ?_; rintro e w2 ⟨g1, c1, rfl, own1, hb⟩; have bb1 := hb; have zz := hb.size; (try simp only [World.size_alloc, World.size_drew] at zz own1); replace own1 := own_base own1 (show w1.heap.size + 1 ≤ _ by omega); have gl1 : w1.heap.size + 1 ≤ g1 := (own1.lt g1 rfl).1; have gs1 : g1 < w2.heap.size := (own1.lt g1 rfl).2; (try replace own2 := ownF_bl own2 hb)) | (go_at_call_of 10 (Value.agg #[Value.int IntKind.i64 (a + c), Value.int IntKind.i64 (b + d)]); refine (KR.out _).mono ?_; rintro e w3 ⟨g2, c2, rfl, own2, hb⟩; have bb2 := hb; have zz := hb.size; (try simp only [World.size_alloc, World.size_drew] at zz own2); replace own2 := own_base own2 (show w1.heap.size + 1 ≤ _ by omega); (try replace own1 := ownF_bl own1 hb)) | (refine step_append_lies _ (by rfl) _ _ _ (by rfl) (w1.heap.size + 1) 31 i0 _ 2 16 under_Qs hi hz0 hz1 hz2 rfl (by omega) _ N (xs1.map (Value.int .i64)) (by rfl) own1 ⟨g2, 0, none⟩ N c2 (xs2.map (Value.int .i64)) (by rfl) (by rw [List.length_map, HX2.out]) (row_news own2) (by intro u hu; obtain ⟨z, _, rfl⟩ := List.mem_map.mp hu; rfl) hp0 (by unfold maxLen; omega) (by omega) (by omega) _ rfl ?_; intro gg cap3 w4 own4 hgrow hat hlt))
    all_goals (try go_split_ands)
    have z1 := bb1.size
    have z2 := bb2.size
    have z4 := hgrow.size
    simp only [World.size_alloc, World.size_drew] at z1
    have hB2 : Below w.heap.size w w2 := Below.trans (Below.drew (Below.alloc hB1 (by omega) _)) (Below.mono bb1 (by simp only [World.size_alloc, World.size_drew]; omega))
    have hB3 : Below w.heap.size w w3 := Below.trans hB2 (Below.mono bb2 (by omega))
    have hB4 : Below w.heap.size w w4 := Below.grown hB3 hgrow (by omega) (fun k hk => by have := (own1.lt k hk).1; omega)
    go_wp2
    go_returns
    exact ⟨gg, cap3, rfl, by rw [List.map_append]; exact own_base own4 (by omega), hB4⟩
end Go.Proofs.Ytandannjdhnlmaa
