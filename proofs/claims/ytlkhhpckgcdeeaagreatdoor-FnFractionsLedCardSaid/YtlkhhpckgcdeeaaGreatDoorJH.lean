/- The number of rests in plain Lean. -/
import Derived.Test.YtlkhhpckgcdeeaaGreatDoorK
import Derived.Test.YtlkhhpckgcdeeaaGreatDoorGD
import Derived.Test.YtlkhhpckgcdeeaaGreatDoorTB
namespace Go.Proofs.YtlkhhpckgcdeeaaGreatDoor
set_option linter.unusedVariables false
set_option linter.unusedSimpArgs false
/-- the reference's and the program's number of rests, in plain Lean -/
def stp : Nat → Int → Int → Option Int
  | 0, _, _ => none
  | f + 1, n, p => if n % p = 0 then stp f (n / p) p else some n
def cstep (out p : Int) : Int := out / (p * p) * (p * p - 1)
def cG : Nat → Int → Int → Int → Option Int
  | 0, _, _, _ => none
  | f + 1, out, rest, p => if p ≤ rest then (if rest % p = 0 then (match stp 12 rest p with | some r => cG f (cstep out p) r (p + 1) | none => none) else cG f out rest (p + 1)) else some out
def cH : Nat → Int → List Int → Int → Option (List Int)
  | 0, _, _, _ => none
  | f + 1, n, l, p => if 1 < n then (
      if n % (if n < p * p then n else p) = 0 then (match stp 12 n (if n < p * p then n else p) with | some r => cH f r (l ++ [if n < p * p then n else p]) ((if n < p * p then n else p) + 1) | none => none)
      else cH f n l ((if n < p * p then n else p) + 1)) else some l
def cM (n : Int) : Option Int := match cH 60 n [] 2 with
  | some l => some (l.foldl cstep (n * n * n))
  | none => none
set_option maxRecDepth 1000000 in
theorem c_small : ∀ n : Fin 1000, (cG 1100 (((n.val : Int) + 1) * ((n.val : Int) + 1) * ((n.val : Int) + 1)) ((n.val : Int) + 1) 2).isSome = true ∧ cM ((n.val : Int) + 1) = cG 1100 (((n.val : Int) + 1) * ((n.val : Int) + 1) * ((n.val : Int) + 1)) ((n.val : Int) + 1) 2 := by decide +kernel
theorem c_both (n : Int) (h0 : 1 ≤ n) (h1 : n ≤ 1000) : ∃ (r : Int) (l : List Int), cG 1100 (n * n * n) n 2 = some r ∧ cH 60 n [] 2 = some l ∧ l.foldl cstep (n * n * n) = r := by
  obtain ⟨a, b⟩ := c_small ⟨(n - 1).toNat, by omega⟩
  simp only at a b
  rw [show (((n - 1).toNat : Nat) : Int) + 1 = n by omega] at a b
  obtain ⟨r, hr⟩ := Option.isSome_iff_exists.mp a
  rw [hr] at b
  unfold cM at b
  cases hl : cH 60 n [] 2 with
  | none => rw [hl] at b; cases b
  | some l => rw [hl] at b; exact ⟨r, l, hr, rfl, Option.some.inj b⟩
theorem cstep_bd {out p : Int} (h0 : 0 ≤ out) (hp : 2 ≤ p) : 0 ≤ cstep out p ∧ cstep out p ≤ out := by
  unfold cstep
  have hq : 4 ≤ p * p := by have := Int.mul_le_mul hp hp (by omega) (by omega); omega
  generalize p * p = q at *
  have h1 := Int.ediv_nonneg h0 (show 0 ≤ q by omega)
  have h2 := Int.ediv_mul_le out (show q ≠ 0 by omega)
  generalize out / q = d at *
  have h3 : d * (q - 1) = d * q - d := by rw [Int.mul_sub, Int.mul_one]
  have h4 := Int.mul_nonneg h1 (show 0 ≤ q - 1 by omega)
  omega
theorem stp_bd {f : Nat} {n p r : Int} (hp : 2 ≤ p) (h : stp f n p = some r) (hn : 1 ≤ n) : 1 ≤ r ∧ r ≤ n := by
  induction f generalizing n with
  | zero => cases h
  | succ f ih =>
    rw [stp] at h
    split at h
    · rename_i hd
      have h1 : n = p * (n / p) := by have := Int.mul_ediv_add_emod n p; omega
      have h2 : 1 ≤ n / p := by
        apply Classical.byContradiction
        intro hc
        have := Int.ediv_nonneg (show 0 ≤ n by omega) (show 0 ≤ p by omega)
        have h3 : n / p = 0 := by omega
        rw [h3] at h1; omega
      have h3 : n / p ≤ n := Int.ediv_le_self _ (by omega)
      have := ih h h2
      omega
    · cases h; omega
end Go.Proofs.YtlkhhpckgcdeeaaGreatDoor

/- CountModulo, of the program and of the reference. -/
namespace Go.Proofs.YtlkhhpckgcdeeaaGreatDoor
open Go.RowKit
set_option linter.unusedVariables false
set_option linter.unusedSimpArgs false
set_option maxRecDepth 100000 in
set_option maxHeartbeats 2000000 in
theorem l01Modulo_c (n : Int) (w : World) (h0 : 1 ≤ n) (h1 : n ≤ 1000) (r : Int) (hr : cG 1100 (n * n * n) n 2 = some r) :
    Calls Tryz.prog 97 #[.int .i64 n] w fun e w' => e = .returned (.int .i64 r) ∧ w = w' := by
  have hn2 : 1 ≤ n * n ∧ n * n ≤ 1000000 := by
    constructor
    · have := Int.mul_le_mul h0 h0 (by omega) (by omega); omega
    · have := Int.mul_le_mul h1 h1 (by omega) (by omega); omega
  have hn3 : 1 ≤ n * n * n ∧ n * n * n ≤ 1000000000 := by
    constructor
    · have := Int.mul_le_mul hn2.1 h0 (by omega) (by omega); omega
    · have := Int.mul_le_mul hn2.2 h1 (by omega) (by omega); omega
  have HR := Lib.hid hr
  clear hr
  go_enter Tryz.func97, Tryz.ntmps97
  go_wp2
  go_loopw [3, 4, 5] (fun vo vr vp wr => ∃ (f : Nat) (out rest p : Int), vo = .int .i64 out ∧ vr = .int .i64 rest ∧ vp = .int .i64 p ∧ Hid (cG f out rest p = some r) ∧ 0 ≤ out ∧ out ≤ 1000000000 ∧ 1 ≤ rest ∧ rest ≤ 1000 ∧ 2 ≤ p ∧ p ≤ 1001 ∧ wr = w) (fun vo vr vp wr => (intOf vr + 1 - intOf vp).toNat)
  case atStart => exact ⟨1100, n * n * n, n, 2, rfl, rfl, rfl, HR, by omega, by omega, h0, h1, by omega, by omega, rfl⟩
  case round =>
    clear hn2 hn3 h0 h1
    obtain ⟨f, out, rest, p, rfl, rfl, rfl, HG, ho0, ho1, hr0, hr1, hp0, hp1, rfl⟩ := hrel
    by_cases hle : p ≤ rest
    · have hle' : decide (p ≤ rest) = true := decide_eq_true hle
      have hpz : (p == 0) = false := by simp; omega
      cases f with
      | zero => have := HG.out; cases this
      | succ f =>
      by_cases hd : rest % p = 0
      · obtain ⟨s, HS, HG2⟩ : ∃ s, Hid (stp 12 rest p = some s) ∧ Hid (cG f (cstep out p) s (p + 1) = some r) := by
          have h := HG.out
          rw [cG, if_pos hle, if_pos hd] at h
          cases hs : stp 12 rest p with
          | none => rw [hs] at h; cases h
          | some s => rw [hs] at h; exact ⟨s, Lib.hid rfl, Lib.hid h⟩
        have hsb := stp_bd hp0 HS.out hr0
        have hq : 4 ≤ p * p ∧ p * p ≤ 1002001 := by
          constructor
          · have := Int.mul_le_mul hp0 hp0 (by omega) (by omega); omega
          · have := Int.mul_le_mul hp1 hp1 (by omega) (by omega); omega
        have hcs := cstep_bd ho0 hp0
        obtain ⟨o2, ho2⟩ : ∃ o2, cstep out p = o2 := ⟨_, rfl⟩
        have hqz : (p * p == 0) = false := by simp; omega
        have ht : out.tdiv (p * p) = out / (p * p) := Int.tdiv_eq_ediv_of_nonneg ho0
        have hd0 := Int.ediv_nonneg ho0 (show 0 ≤ p * p by omega)
        have hd1 : out / (p * p) ≤ out := Int.ediv_le_self _ ho0
        have hdo : out / (p * p) * (p * p - 1) = o2 := ho2
        rw [ho2] at hcs HG2
        have HD := Lib.hid hdo
        clear hdo ho2
        have hw0 : 0 ≤ out / (p * p) * (p * p - 1) := by rw [HD.out]; exact hcs.1
        have hw1 : out / (p * p) * (p * p - 1) ≤ 1000000000 := by rw [HD.out]; omega
        go_wp2
        rw [HD.out]
        have hs0 := hsb.1
        have hs1 : s ≤ 1000 := by omega
        have hc0 := hcs.1
        have hc1 : o2 ≤ 1000000000 := by omega
        have hsr := hsb.2
        clear hw0 hw1 hd0 hd1 ht hqz hq HD hcs hsb hle' HG
        go_loopw [4] (fun vr wq => ∃ (f2 : Nat) (n2 : Int), vr = .int .i64 n2 ∧ Hid (stp f2 n2 p = some s) ∧ 1 ≤ n2 ∧ n2 ≤ 1000 ∧ wq = wr) (fun vr wq => (intOf vr).toNat)
        case atStart => exact ⟨12, rest, rfl, HS, hr0, hr1, rfl⟩
        case round =>
          rename_i hrel
          obtain ⟨f2, n2, rfl, HS2, hn0, hn1, rfl⟩ := hrel
          by_cases hd2 : n2 % p = 0
          · have hm2 : n2.tmod p = 0 := by rw [Int.tmod_eq_emod_of_nonneg (by omega)]; exact hd2
            have ht2 : n2.tdiv p = n2 / p := Int.tdiv_eq_ediv_of_nonneg (by omega)
            obtain ⟨g2, hg1, hg2⟩ : ∃ g2, n2 / p = g2 ∧ (1 ≤ g2 ∧ g2 < n2) := by
              refine ⟨_, rfl, ?_⟩
              have h1 : n2 = p * (n2 / p) := by have := Int.mul_ediv_add_emod n2 p; omega
              have h2 : 1 ≤ n2 / p := by
                apply Classical.byContradiction
                intro hc
                have := Int.ediv_nonneg (show 0 ≤ n2 by omega) (show 0 ≤ p by omega)
                have h3 : n2 / p = 0 := by omega
                rw [h3] at h1; omega
              have h4 := Int.mul_le_mul hp0 (Int.le_refl (n2 / p)) (by omega) (by omega)
              exact ⟨h2, by omega⟩
            obtain ⟨f3, HS3⟩ : ∃ f3, Hid (stp f3 g2 p = some s) := by
              have h := HS2.out
              cases f2 with
              | zero => cases h
              | succ f2 => rw [stp, if_pos hd2, hg1] at h; exact ⟨f2, Lib.hid h⟩
            have hdv0 : 1 ≤ n2 / p := by rw [hg1]; exact hg2.1
            have hdv1 : n2 / p ≤ 1000 := by rw [hg1]; omega
            have HG1 := Lib.hid hg1
            clear hg1
            go_wp2
            go_roundw
            case rel => exact ⟨f3, g2, by rw [HG1.out], HS3, hg2.1, by omega, trivial⟩
            case measure => simp only [intOf]; rw [HG1.out]; omega
          · have hm2 : ¬ n2.tmod p = 0 := by rw [Int.tmod_eq_emod_of_nonneg (by omega)]; exact hd2
            have hm3 : (n2 % p == 0) = false := by simpa using hd2
            have hns : n2 = s := by
              have h := HS2.out
              cases f2 with
              | zero => cases h
              | succ f2 => rw [stp, if_neg hd2] at h; exact Option.some.inj h
            have HNS := Lib.hid hns
            clear hns
            go_wp2
            go_roundw
            case rel => exact ⟨f, o2, n2, p + 1, rfl, rfl, rfl, by rw [HNS.out]; exact HG2, hc0, hc1, hn0, hn1, by omega, by omega, trivial⟩
            case measure => simp only [intOf]; have := HNS.out; omega
      · have HG2 : Hid (cG f out rest (p + 1) = some r) := Lib.hid (by
          have h := HG.out
          rw [cG, if_pos hle, if_neg hd] at h; exact h)
        have hm3 : (rest % p == 0) = false := by simpa using hd
        have hm2 : ¬ rest.tmod p = 0 := by rw [Int.tmod_eq_emod_of_nonneg (by omega)]; exact hd
        go_wp2
        go_roundw
        case rel => exact ⟨f, out, rest, p + 1, rfl, rfl, rfl, HG2, ho0, ho1, hr0, hr1, by omega, by omega, trivial⟩
        case measure => simp only [intOf]; omega
    · have hle' : decide (p ≤ rest) = false := decide_eq_false hle
      have ho : out = r := by
        have h := HG.out
        cases f with
        | zero => cases h
        | succ f => rw [cG, if_neg hle] at h; exact Option.some.inj h
      subst ho
      go_wp2
      go_returns
      exact ⟨rfl, rfl⟩
theorem sCountModulo_yes (n : Int) (w : World) (h0 : 1 ≤ n) (h1 : n ≤ 1000) (r : Int) (hr : cG 1100 (n * n * n) n 2 = some r) :
    Calls Tryz.prog 30 #[.int .i64 n] w fun e w' => e = .returned (.tuple #[.int .i64 r, .int .i64 0]) ∧ w = w' := by
  have hb : (decide (1 ≤ n) && decide (n ≤ 1000)) = true := by simp; omega
  have HB := Lib.hid hb
  have HR := Lib.hid hr
  clear hb hr
  go_enter Tryz.func30, Tryz.ntmps30
  go_wp2_with fail
  refine (l01In_c _ _ _ _).mono ?_
  rintro e w1 ⟨rfl, rfl⟩
  rw [HB.out]
  go_wp2_with fail
  refine (l01Modulo_c n _ h0 h1 r HR.out).mono ?_
  rintro e w2 ⟨rfl, rfl⟩
  go_wp2
  go_returns
  exact ⟨rfl, rfl⟩
theorem sCountModulo_no (n : Int) (w : World) (h : (decide (1 ≤ n) && decide (n ≤ 1000)) = false) :
    Calls Tryz.prog 30 #[.int .i64 n] w fun e w' => e = .returned (.tuple #[.int .i64 0, .int .i64 2]) ∧ w = w' := by
  have HB := Lib.hid h
  clear h
  go_enter Tryz.func30, Tryz.ntmps30
  go_wp2_with fail
  refine (l01In_c _ _ _ _).mono ?_
  rintro e w1 ⟨rfl, rfl⟩
  rw [HB.out]
  go_wp2
  go_returns
  exact ⟨rfl, rfl⟩
def prm (n p : Int) : Int := if n < p * p then n else p
theorem cH_step (f : Nat) (n : Int) (l : List Int) (p : Int) : cH (f + 1) n l p = if 1 < n then (if n % prm n p = 0 then (match stp 12 n (prm n p) with | some r => cH f r (l ++ [prm n p]) (prm n p + 1) | none => none) else cH f n l (prm n p + 1)) else some l := rfl
set_option maxRecDepth 100000 in
set_option maxHeartbeats 4000000 in
theorem primesOf_c (n : Int) (w : World) (h0 : 1 ≤ n) (h1 : n ≤ 1000) (l : List Int) (hl : cH 60 n [] 2 = some l) :
    Calls Tryz.prog 125 #[.int .i64 n] w fun e w' => ∃ v, e = .returned v ∧ OwnI w.heap.size w' v l ∧ l.length ≤ 60 ∧ (∀ p ∈ l, 2 ≤ p ∧ p ≤ 1000) ∧ Below w.heap.size w w' := by
  obtain ⟨i0, hi, hz0, hz1, hz2⟩ := info_parts info_i64
  have HL := Lib.hid hl
  clear hl
  obtain ⟨B, hB⟩ : ∃ B, w.heap.size = B := ⟨_, rfl⟩
  have hown0 := own_new w B 2 1 (by omega)
  rw [hB] at hown0
  go_enter Tryz.func125, Tryz.ntmps125
  go_wp2_with fail
  go_loopw [0, 3, 4] (fun vn vl vp wr => ∃ (f m : Nat) (n2 : Int) (zs : List Int) (p : Int), vn = .int .i64 n2 ∧ vp = .int .i64 p ∧ Hid (cH f n2 zs p = some l) ∧ 1 ≤ n2 ∧ n2 ≤ 1000 ∧ 2 ≤ p ∧ p ≤ 1001 ∧ zs.length = m ∧ m + f ≤ 60 ∧ Hid (∀ q ∈ zs, 2 ≤ q ∧ q ≤ 1000) ∧ wr.ownsRow B 2 1 vl m (zs.map (Value.int .i64)) ∧ Below B w wr ∧ B < wr.heap.size) (fun vn vl vp wr => (intOf vn).toNat * 2000 + (2000 - (intOf vp).toNat))
  case atStart => exact ⟨60, 0, n, [], 2, rfl, rfl, HL, h0, h1, by omega, by omega, rfl, by omega, Lib.hid (fun q hq => by cases hq), hown0, by rw [← hB]; exact (by repeat' (first | (with_reducible exact Below.refl _ _) | (with_reducible assumption) | (with_reducible refine below_drewN ?_ _) | (with_reducible refine Below.drew ?_) | (with_reducible refine Below.alloc ?_ ?_ _) | (with_reducible refine Below.setCell ?_ ?_ _) | (with_reducible refine Below.trans ?_ (Below.mono (by with_reducible assumption) ?_)) | go_size | (dsimp only; omega))), by go_size⟩
  case round =>
    clear hown0 h0 h1
    obtain ⟨f, m, n2, zs, p, rfl, rfl, HG, hn0, hn1, hp0, hp1, rfl, hmf, HALL, hown, hbr, hzr⟩ := hrel
    have hq : 4 ≤ p * p ∧ p * p ≤ 1002001 := by
      constructor
      · have := Int.mul_le_mul hp0 hp0 (by omega) (by omega); omega
      · have := Int.mul_le_mul hp1 hp1 (by omega) (by omega); omega
    by_cases hgt : 1 < n2
    · have hgt' : decide (1 < n2) = true := decide_eq_true hgt
      cases f with
      | zero => have := HG.out; cases this
      | succ f =>
      by_cases hlt : n2 < p * p
      · have hlt' : decide (n2 < p * p) = true := decide_eq_true hlt
        have HPR : Hid (prm n2 p = n2) := Lib.hid (if_pos hlt)
        have hd : n2 % n2 = 0 := Int.emod_self
        have hdt : n2.tmod n2 = 0 := by rw [Int.tmod_eq_emod_of_nonneg (by omega)]; exact hd
        have hn2z : (n2 == 0) = false := by simp; omega
        have hn22 : 2 ≤ n2 := by omega
        obtain ⟨s, HS, HG2⟩ : ∃ s, Hid (stp 12 n2 n2 = some s) ∧ Hid (cH f s (zs ++ [n2]) (n2 + 1) = some l) := by
          have h := HG.out
          rw [cH_step, if_pos hgt, HPR.out, if_pos hd] at h
          cases hs : stp 12 n2 n2 with
          | none => rw [hs] at h; cases h
          | some s => rw [hs] at h; exact ⟨s, Lib.hid rfl, Lib.hid h⟩
        have hsb := stp_bd hn22 HS.out hn0
        have hs0 := hsb.1
        have hs1 : s ≤ 1000 := by omega
        have HALL2 : Hid (∀ q ∈ zs ++ [n2], 2 ≤ q ∧ q ≤ 1000) := Lib.hid (by
          intro q hq
          rcases List.mem_append.mp hq with h | h
          · exact HALL.out q h
          · simp only [List.mem_cons, List.not_mem_nil, or_false] at h; subst h; exact ⟨hn22, by omega⟩)
        have hslt : s < n2 := by
          have h := HS.out
          rw [stp, if_pos hd] at h
          have h1 : n2 = n2 * (n2 / n2) := by have := Int.mul_ediv_add_emod n2 n2; omega
          have h2 : 1 ≤ n2 / n2 := by
            apply Classical.byContradiction
            intro hc
            have := Int.ediv_nonneg (show 0 ≤ n2 by omega) (show 0 ≤ n2 by omega)
            have h3 : n2 / n2 = 0 := by omega
            rw [h3] at h1; omega
          have h4 := Int.mul_le_mul hn22 (Int.le_refl (n2 / n2)) (by omega) (by omega)
          have := stp_bd hn22 h h2
          omega
        clear hsb
        go_wp2_with (at_builtin; refine wpList_append_own _ rfl _ _ 48 rfl B 2 i0 (.int .i64 0) 1 8 under_i64s hi hz0 hz1 hz2 rfl (by decide) _ _ _ rfl (hown.alloc _) ⟨wr.heap.size, 0, none⟩ 1 1 [.int .i64 n2] rfl rfl (cell_one_new _ _ _) (fun x hx => by simp at hx; subst hx; rfl) (by unfold maxLen; omega) (by omega) (by simp; omega) ?_; intro v' w8 hown8 hgrow8 hnil8; obtain ⟨hB8, hs8, fc8, ff8⟩ := app_after hown hgrow8 (Below.refl B wr) (Nat.le_refl _) (by omega); clear fc8 ff8 hgrow8 hnil8)
        go_loopw [0] (fun vr wq => ∃ (f2 : Nat) (m2 : Int), vr = .int .i64 m2 ∧ Hid (stp f2 m2 n2 = some s) ∧ 1 ≤ m2 ∧ m2 ≤ 1000 ∧ wq = w8) (fun vr wq => (intOf vr).toNat)
        case atStart => exact ⟨12, n2, rfl, HS, hn0, hn1, rfl⟩
        case round =>
          rename_i hrel
          obtain ⟨f2, m2, rfl, HS2, hm0, hm1, rfl⟩ := hrel
          have hqz : (n2 == 0) = false := by simp; omega
          by_cases hd2 : m2 % n2 = 0
          · have hm2 : m2.tmod n2 = 0 := by rw [Int.tmod_eq_emod_of_nonneg (by omega)]; exact hd2
            have ht2 : m2.tdiv n2 = m2 / n2 := Int.tdiv_eq_ediv_of_nonneg (by omega)
            obtain ⟨g2, hg1, hg2⟩ : ∃ g2, m2 / n2 = g2 ∧ (1 ≤ g2 ∧ g2 < m2) := by
              refine ⟨_, rfl, ?_⟩
              have h1 : m2 = n2 * (m2 / n2) := by have := Int.mul_ediv_add_emod m2 n2; omega
              have h2 : 1 ≤ m2 / n2 := by
                apply Classical.byContradiction
                intro hc
                have := Int.ediv_nonneg (show 0 ≤ m2 by omega) (show 0 ≤ n2 by omega)
                have h3 : m2 / n2 = 0 := by omega
                rw [h3] at h1; omega
              have h4 := Int.mul_le_mul hn22 (Int.le_refl (m2 / n2)) (by omega) (by omega)
              exact ⟨h2, by omega⟩
            obtain ⟨f3, HS3⟩ : ∃ f3, Hid (stp f3 g2 n2 = some s) := by
              have h := HS2.out
              cases f2 with
              | zero => cases h
              | succ f2 => rw [stp, if_pos hd2, hg1] at h; exact ⟨f2, Lib.hid h⟩
            have hdv0 : 1 ≤ m2 / n2 := by rw [hg1]; exact hg2.1
            have hdv1 : m2 / n2 ≤ 1000 := by rw [hg1]; omega
            have HG1 := Lib.hid hg1
            clear hg1
            go_wp2
            go_roundw
            case rel => exact ⟨f3, g2, by rw [HG1.out], HS3, hg2.1, by omega, trivial⟩
            case measure => simp only [intOf]; rw [HG1.out]; omega
          · have hm2 : ¬ m2.tmod n2 = 0 := by rw [Int.tmod_eq_emod_of_nonneg (by omega)]; exact hd2
            have hm3 : (m2 % n2 == 0) = false := by simpa using hd2
            have hns : m2 = s := by
              have h := HS2.out
              cases f2 with
              | zero => cases h
              | succ f2 => rw [stp, if_neg hd2] at h; exact Option.some.inj h
            have HNS := Lib.hid hns
            clear hns
            go_wp2
            go_roundw
            case rel => exact ⟨f, zs.length + 1, m2, zs ++ [n2], n2 + 1, rfl, rfl, by rw [HNS.out]; exact HG2, hm0, hm1, by omega, by omega, by rw [List.length_append]; rfl, by omega, HALL2, by rw [List.map_append]; exact hown8, hbr.trans (hB8.mono (by omega)), by omega⟩
            case measure => simp only [intOf]; have := HNS.out; omega
      · have hlt' : decide (n2 < p * p) = false := decide_eq_false hlt
        have HPR : Hid (prm n2 p = p) := Lib.hid (if_neg hlt)
        have hpz : (p == 0) = false := by simp; omega
        have hple : p ≤ 1000 := by
          have := Int.mul_le_mul (Int.le_refl p) hp0 (by omega) (by omega)
          omega
        by_cases hd : n2 % p = 0
        · have hdt : n2.tmod p = 0 := by rw [Int.tmod_eq_emod_of_nonneg (by omega)]; exact hd
          obtain ⟨s, HS, HG2⟩ : ∃ s, Hid (stp 12 n2 p = some s) ∧ Hid (cH f s (zs ++ [p]) (p + 1) = some l) := by
            have h := HG.out
            rw [cH_step, if_pos hgt, HPR.out, if_pos hd] at h
            cases hs : stp 12 n2 p with
            | none => rw [hs] at h; cases h
            | some s => rw [hs] at h; exact ⟨s, Lib.hid rfl, Lib.hid h⟩
          have hsb := stp_bd hp0 HS.out hn0
          have hs0 := hsb.1
          have hs1 : s ≤ 1000 := by omega
          have HALL2 : Hid (∀ q ∈ zs ++ [p], 2 ≤ q ∧ q ≤ 1000) := Lib.hid (by
            intro q hq
            rcases List.mem_append.mp hq with h | h
            · exact HALL.out q h
            · simp only [List.mem_cons, List.not_mem_nil, or_false] at h; subst h; exact ⟨hp0, by omega⟩)
          have hslt : s < n2 := by
            have h := HS.out
            rw [stp, if_pos hd] at h
            have h1 : n2 = p * (n2 / p) := by have := Int.mul_ediv_add_emod n2 p; omega
            have h2 : 1 ≤ n2 / p := by
              apply Classical.byContradiction
              intro hc
              have := Int.ediv_nonneg (show 0 ≤ n2 by omega) (show 0 ≤ p by omega)
              have h3 : n2 / p = 0 := by omega
              rw [h3] at h1; omega
            have h4 := Int.mul_le_mul hp0 (Int.le_refl (n2 / p)) (by omega) (by omega)
            have := stp_bd hp0 h h2
            omega
          clear hsb
          go_wp2_with (at_builtin; refine wpList_append_own _ rfl _ _ 48 rfl B 2 i0 (.int .i64 0) 1 8 under_i64s hi hz0 hz1 hz2 rfl (by decide) _ _ _ rfl (hown.alloc _) ⟨wr.heap.size, 0, none⟩ 1 1 [.int .i64 p] rfl rfl (cell_one_new _ _ _) (fun x hx => by simp at hx; subst hx; rfl) (by unfold maxLen; omega) (by omega) (by simp; omega) ?_; intro v' w8 hown8 hgrow8 hnil8; obtain ⟨hB8, hs8, fc8, ff8⟩ := app_after hown hgrow8 (Below.refl B wr) (Nat.le_refl _) (by omega); clear fc8 ff8 hgrow8 hnil8)
          go_loopw [0] (fun vr wq => ∃ (f2 : Nat) (m2 : Int), vr = .int .i64 m2 ∧ Hid (stp f2 m2 p = some s) ∧ 1 ≤ m2 ∧ m2 ≤ 1000 ∧ wq = w8) (fun vr wq => (intOf vr).toNat)
          case atStart => exact ⟨12, n2, rfl, HS, hn0, hn1, rfl⟩
          case round =>
            rename_i hrel
            obtain ⟨f2, m2, rfl, HS2, hm0, hm1, rfl⟩ := hrel
            have hqz : (p == 0) = false := by simp; omega
            by_cases hd2 : m2 % p = 0
            · have hm2 : m2.tmod p = 0 := by rw [Int.tmod_eq_emod_of_nonneg (by omega)]; exact hd2
              have ht2 : m2.tdiv p = m2 / p := Int.tdiv_eq_ediv_of_nonneg (by omega)
              obtain ⟨g2, hg1, hg2⟩ : ∃ g2, m2 / p = g2 ∧ (1 ≤ g2 ∧ g2 < m2) := by
                refine ⟨_, rfl, ?_⟩
                have h1 : m2 = p * (m2 / p) := by have := Int.mul_ediv_add_emod m2 p; omega
                have h2 : 1 ≤ m2 / p := by
                  apply Classical.byContradiction
                  intro hc
                  have := Int.ediv_nonneg (show 0 ≤ m2 by omega) (show 0 ≤ p by omega)
                  have h3 : m2 / p = 0 := by omega
                  rw [h3] at h1; omega
                have h4 := Int.mul_le_mul hp0 (Int.le_refl (m2 / p)) (by omega) (by omega)
                exact ⟨h2, by omega⟩
              obtain ⟨f3, HS3⟩ : ∃ f3, Hid (stp f3 g2 p = some s) := by
                have h := HS2.out
                cases f2 with
                | zero => cases h
                | succ f2 => rw [stp, if_pos hd2, hg1] at h; exact ⟨f2, Lib.hid h⟩
              have hdv0 : 1 ≤ m2 / p := by rw [hg1]; exact hg2.1
              have hdv1 : m2 / p ≤ 1000 := by rw [hg1]; omega
              have HG1 := Lib.hid hg1
              clear hg1
              go_wp2
              go_roundw
              case rel => exact ⟨f3, g2, by rw [HG1.out], HS3, hg2.1, by omega, trivial⟩
              case measure => simp only [intOf]; rw [HG1.out]; omega
            · have hm2 : ¬ m2.tmod p = 0 := by rw [Int.tmod_eq_emod_of_nonneg (by omega)]; exact hd2
              have hm3 : (m2 % p == 0) = false := by simpa using hd2
              have hns : m2 = s := by
                have h := HS2.out
                cases f2 with
                | zero => cases h
                | succ f2 => rw [stp, if_neg hd2] at h; exact Option.some.inj h
              have HNS := Lib.hid hns
              clear hns
              go_wp2
              go_roundw
              case rel => exact ⟨f, zs.length + 1, m2, zs ++ [p], p + 1, rfl, rfl, by rw [HNS.out]; exact HG2, hm0, hm1, by omega, by omega, by rw [List.length_append]; rfl, by omega, HALL2, by rw [List.map_append]; exact hown8, hbr.trans (hB8.mono (by omega)), by omega⟩
              case measure => simp only [intOf]; have := HNS.out; omega
        · have HG2 : Hid (cH f n2 zs (p + 1) = some l) := Lib.hid (by
            have h := HG.out
            rw [cH_step, if_pos hgt, HPR.out, if_neg hd] at h; exact h)
          have hm3 : (n2 % p == 0) = false := by simpa using hd
          have hm2 : ¬ n2.tmod p = 0 := by rw [Int.tmod_eq_emod_of_nonneg (by omega)]; exact hd
          go_wp2
          go_roundw
          case rel => exact ⟨f, zs.length, n2, zs, p + 1, rfl, rfl, HG2, hn0, hn1, by omega, by omega, rfl, by omega, HALL, hown, hbr, hzr⟩
          case measure => simp only [intOf]; omega
    · have hgt' : decide (1 < n2) = false := decide_eq_false hgt
      have hzl : zs = l := by
        have h := HG.out
        cases f with
        | zero => cases h
        | succ f => rw [cH_step, if_neg hgt] at h; exact Option.some.inj h
      have hO := OwnI.of_row hown
      subst hzl
      go_wp2
      go_returns
      exact ⟨_, rfl, hO, by omega, HALL.out, hbr⟩
theorem fold_next (l : List Int) (k : Nat) (out r : Int) (h : (l.drop k).foldl cstep out = r) (hk : k < l.length) : (l.drop (k + 1)).foldl cstep (cstep out (l.getD k 0)) = r := by
  rw [List.drop_eq_getElem_cons hk, List.foldl_cons] at h
  rw [List.getD_eq_getElem?_getD, List.getElem?_eq_getElem hk]
  exact h
set_option maxRecDepth 100000 in
set_option maxHeartbeats 2000000 in
theorem countModulo_c (n : Int) (w : World) (h0 : 1 ≤ n) (h1 : n ≤ 1000) (l : List Int) (hl : cH 60 n [] 2 = some l) (r : Int) (hr : l.foldl cstep (n * n * n) = r) :
    Calls Tryz.prog 96 #[.int .i64 n] w fun e w' => e = .returned (.int .i64 r) ∧ Below w.heap.size w w' := by
  have hn2 : 1 ≤ n * n ∧ n * n ≤ 1000000 := by
    constructor
    · have := Int.mul_le_mul h0 h0 (by omega) (by omega); omega
    · have := Int.mul_le_mul h1 h1 (by omega) (by omega); omega
  have hn3 : 1 ≤ n * n * n ∧ n * n * n ≤ 1000000000 := by
    constructor
    · have := Int.mul_le_mul hn2.1 h0 (by omega) (by omega); omega
    · have := Int.mul_le_mul hn2.2 h1 (by omega) (by omega); omega
  have HR := Lib.hid hr
  have HL := Lib.hid hl
  clear hr hl
  go_enter Tryz.func96, Tryz.ntmps96
  go_wp2_with fail
  refine (primesOf_c n _ h0 h1 l HL.out).mono ?_
  rintro e w1 ⟨v, rfl, hO, hlen, hall, b1⟩
  have HALL := Lib.hid hall
  clear hall
  obtain ⟨m, hm⟩ : ∃ m, l.length = m := ⟨_, rfl⟩
  obtain ⟨pa, ca, rfl, HC⟩ : ∃ pa ca, v = .slice pa m ca ∧ Hid (∀ k, k < m → ∃ g, pa = some ⟨g, 0, none⟩ ∧ w1.cell? ⟨g, k, none⟩ = some (.int .i64 (l.getD k 0))) := by
    rcases hO with ⟨e0, p, c, rfl⟩ | ⟨g, c, rfl, -, -, hrow, -⟩
    · refine ⟨p, c, by rw [← hm, e0]; rfl, Lib.hid (fun k hk => ?_)⟩
      rw [← hm, e0] at hk; exact absurd hk (by simp)
    · refine ⟨some ⟨g, 0, none⟩, c, by rw [hm], Lib.hid (fun k hk => ⟨g, rfl, ?_⟩)⟩
      have := hrow k (by omega); simpa using this
  have HM := Lib.hid hm
  rw [hm] at hlen
  clear hO hm
  go_wp2
  go_loopw [3, 14] (fun vo vk wr => ∃ (k : Nat) (out : Int), vo = .int .i64 out ∧ vk = .int .i64 k ∧ k ≤ m ∧ Hid ((l.drop k).foldl cstep out = r) ∧ 0 ≤ out ∧ out ≤ 1000000000 ∧ wr = w1) (fun vo vk wr => m - (intOf vk).toNat)
  case atStart => exact ⟨0, n * n * n, rfl, rfl, Nat.zero_le _, HR, by omega, by omega, rfl⟩
  case round =>
    clear hn2 hn3 h0 h1
    obtain ⟨k, out, rfl, rfl, hk, HF, ho0, ho1, rfl⟩ := hrel
    by_cases hlt : k < m
    · obtain ⟨g, rfl, hc⟩ := HC.out k hlt
      have hz := HALL.out (l.getD k 0) (by
        rw [List.getD_eq_getElem?_getD, List.getElem?_eq_getElem (by rw [HM.out]; exact hlt)]
        exact List.getElem_mem _)
      have HN : Hid ((l.drop (k + 1)).foldl cstep (cstep out (l.getD k 0)) = r) := Lib.hid (fold_next l k out r HF.out (by rw [HM.out]; exact hlt))
      generalize l.getD k 0 = z at *
      obtain ⟨hz0, hz1⟩ := hz
      have hlt' : ((k : Int) < (m : Int)) := by omega
      have hq : 4 ≤ z * z ∧ z * z ≤ 1000000 := by
        constructor
        · have := Int.mul_le_mul hz0 hz0 (by omega) (by omega); omega
        · have := Int.mul_le_mul hz1 hz1 (by omega) (by omega); omega
      have hcs := cstep_bd ho0 hz0
      obtain ⟨o2, ho2⟩ : ∃ o2, cstep out z = o2 := ⟨_, rfl⟩
      have hqz : (z * z == 0) = false := by simp; omega
      have ht : out.tdiv (z * z) = out / (z * z) := Int.tdiv_eq_ediv_of_nonneg ho0
      have hd0 := Int.ediv_nonneg ho0 (show 0 ≤ z * z by omega)
      have hd1 : out / (z * z) ≤ out := Int.ediv_le_self _ ho0
      have hdo : out / (z * z) * (z * z - 1) = o2 := ho2
      rw [ho2] at hcs HN
      have HD := Lib.hid hdo
      clear hdo ho2
      have hw0 : 0 ≤ out / (z * z) * (z * z - 1) := by rw [HD.out]; exact hcs.1
      have hw1 : out / (z * z) * (z * z - 1) ≤ 1000000000 := by rw [HD.out]; omega
      go_wp2
      rw [HD.out]
      go_roundw
      case rel => exact ⟨k + 1, o2, rfl, by go_num, by omega, HN, hcs.1, by omega, trivial⟩
      case measure => simp [intOf]; omega
    · have hlt' : ¬ ((k : Int) < (m : Int)) := by omega
      have ho : out = r := by
        have h := HF.out
        rw [List.drop_of_length_le (by rw [HM.out]; omega)] at h
        exact h
      subst ho
      go_wp2
      go_returns
      exact ⟨rfl, b1⟩
theorem CountModulo_yes (n : Int) (w : World) (h0 : 1 ≤ n) (h1 : n ≤ 1000) (l : List Int) (hl : cH 60 n [] 2 = some l) (r : Int) (hr : l.foldl cstep (n * n * n) = r) :
    Calls Tryz.prog 29 #[.int .i64 n] w fun e w' => e = .returned (.tuple #[.int .i64 r, .int .i64 0]) ∧ Below w.heap.size w w' := by
  have hb : (decide (1 ≤ n) && decide (n ≤ 1000)) = true := by simp; omega
  have HB := Lib.hid hb
  have HR := Lib.hid hr
  have HL := Lib.hid hl
  clear hb hr hl
  go_enter Tryz.func29, Tryz.ntmps29
  go_wp2_with fail
  refine (within_c _ _ _ _).mono ?_
  rintro e w1 ⟨rfl, rfl⟩
  rw [HB.out]
  go_wp2_with fail
  refine (countModulo_c n _ h0 h1 l HL.out r HR.out).mono ?_
  rintro e w2 ⟨rfl, b2⟩
  go_wp2
  go_returns
  exact ⟨rfl, b2⟩
theorem CountModulo_no (n : Int) (w : World) (h : (decide (1 ≤ n) && decide (n ≤ 1000)) = false) :
    Calls Tryz.prog 29 #[.int .i64 n] w fun e w' => e = .returned (.tuple #[.int .i64 0, .int .i64 2]) ∧ Below w.heap.size w w' := by
  have HB := Lib.hid h
  clear h
  go_enter Tryz.func29, Tryz.ntmps29
  go_wp2_with fail
  refine (within_c _ _ _ _).mono ?_
  rintro e w1 ⟨rfl, rfl⟩
  rw [HB.out]
  go_wp2
  go_returns
  exact ⟨rfl, Below.refl _ _⟩
/-- what CountModulo answers, of both -/
theorem count_all (n : Int) : ∃ r c : Int, Hid (∀ w, Calls Tryz.prog 29 #[.int .i64 n] w fun e w' => e = .returned (.tuple #[.int .i64 r, .int .i64 c]) ∧ Below w.heap.size w w') ∧ Hid (∀ w, Calls Tryz.prog 30 #[.int .i64 n] w fun e w' => e = .returned (.tuple #[.int .i64 r, .int .i64 c]) ∧ w = w') := by
  by_cases h : 1 ≤ n ∧ n ≤ 1000
  · obtain ⟨r, l, h1, h2, h3⟩ := c_both n h.1 h.2
    exact ⟨r, 0, Lib.hid (fun w => CountModulo_yes n w h.1 h.2 l h2 r h3), Lib.hid (fun w => sCountModulo_yes n w h.1 h.2 r h1)⟩
  · have hf : (decide (1 ≤ n) && decide (n ≤ 1000)) = false := by
      cases hb : (decide (1 ≤ n) && decide (n ≤ 1000)) with
      | false => rfl
      | true => simp at hb; omega
    exact ⟨0, 2, Lib.hid (fun w => CountModulo_no n w hf), Lib.hid (fun w => sCountModulo_no n w hf)⟩
end Go.Proofs.YtlkhhpckgcdeeaaGreatDoor
