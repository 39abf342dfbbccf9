/- The law of MatrixOfChain. -/
import Derived.Test.YtgpnfjpnbchglaaHB
namespace Go.Proofs.Ytgpnfjpnbchglaa
open Go.RowKit
set_option linter.unusedVariables false
set_option linter.unusedSimpArgs false
attribute [local go_sem] run_min_int4 run_max_int4
theorem chainV_nil (sg : Int) : chainV sg [] = .tuple #[.agg #[.int .i64 0, .int .i64 0, .int .i64 0, .int .i64 0], .int .i64 2] := chainV_no (fun h => by have := h.2.1; simp at this)
theorem MatrixOfChain_nil (sg : Int) (wsg : (Lit.int .i64 sg).wf = true) (a : Option Addr) (c : Nat) (w : World) :
    Calls Try.prog 11 #[.int .i64 sg, .slice a 0 c] w fun e w' => e = .returned (chainV sg []) ∧ Below w.heap.size w w' := by
  rw [chainV_nil]
  obtain ⟨ms, hms, hsize⟩ := size_any sg (w.alloc (Obj.cells #[.int .i64 0, .int .i64 0, .int .i64 0, .int .i64 0] 25)) wsg
  have HSZ := Lib.hid hsize
  clear hsize wsg
  by_cases h1 : ms = 1
  · subst h1
    clear hms
    go_enter Try.func11, Try.ntmps11
    go_wp2_with fail
    refine HSZ.out.mono ?_
    rintro e w' ⟨rfl, rfl⟩
    go_wp2
    exact bodyPost_ret (v := .tuple #[.agg #[.int .i64 0, .int .i64 0, .int .i64 0, .int .i64 0], .int .i64 2]) (by simp only [results, Try.results11]; go_simp) rfl ⟨rfl, (by repeat' (first | (with_reducible exact Below.refl _ _) | (with_reducible assumption) | (with_reducible refine below_drewN ?_ _) | (with_reducible refine Below.drew ?_) | (with_reducible refine Below.alloc ?_ ?_ _) | (with_reducible refine Below.setCell ?_ ?_ _) | (with_reducible refine Below.trans ?_ (Below.mono (by with_reducible assumption) ?_)) | go_size | (dsimp only; omega)))⟩
  · have h2 : (ms == 1) = false := by simpa using h1
    clear hms
    go_enter Try.func11, Try.ntmps11
    go_wp2_with fail
    refine HSZ.out.mono ?_
    rintro e w' ⟨rfl, rfl⟩
    go_wp2
    exact bodyPost_ret (v := .tuple #[.agg #[.int .i64 0, .int .i64 0, .int .i64 0, .int .i64 0], .int .i64 2]) (by simp only [results, Try.results11]; go_simp) rfl ⟨rfl, (by repeat' (first | (with_reducible exact Below.refl _ _) | (with_reducible assumption) | (with_reducible refine below_drewN ?_ _) | (with_reducible refine Below.drew ?_) | (with_reducible refine Below.alloc ?_ ?_ _) | (with_reducible refine Below.setCell ?_ ?_ _) | (with_reducible refine Below.trans ?_ (Below.mono (by with_reducible assumption) ?_)) | go_size | (dsimp only; omega)))⟩
theorem MatrixOfChain_c (sg : Int) (wsg : (Lit.int .i64 sg).wf = true) (v : Value) (zs : List Int) (w : World) (h : InI w v zs) (hm : zs.length ≤ 1000000000) :
    Calls Try.prog 11 #[.int .i64 sg, v] w fun e w' => e = .returned (chainV sg zs) ∧ Below w.heap.size w w' := by
  rcases h with ⟨rfl, a, c, rfl⟩ | ⟨b, o, c, rfl, hb, hr⟩
  · exact MatrixOfChain_nil sg wsg a c w
  · by_cases h0 : zs = []
    · subst h0; exact MatrixOfChain_nil sg wsg _ c w
    · exact MatrixOfChain_row sg wsg b o c zs w hb hr hm h0
theorem sMatrixOfChain_nil (sg : Int) (a : Option Addr) (c : Nat) (w : World) :
    Calls Try.prog 12 #[.int .i64 sg, .slice a 0 c] w fun e w' => e = .returned (chainV sg []) ∧ Below w.heap.size w w' := by
  rw [chainV_nil]
  by_cases s1 : sg = 1
  · subst s1
    go_enter Try.func12, Try.ntmps12
    go_wp2
    exact bodyPost_ret (v := .tuple #[.agg #[.int .i64 0, .int .i64 0, .int .i64 0, .int .i64 0], .int .i64 2]) (by simp only [results, Try.results12]; go_simp) rfl ⟨rfl, (by repeat' (first | (with_reducible exact Below.refl _ _) | (with_reducible assumption) | (with_reducible refine below_drewN ?_ _) | (with_reducible refine Below.drew ?_) | (with_reducible refine Below.alloc ?_ ?_ _) | (with_reducible refine Below.setCell ?_ ?_ _) | (with_reducible refine Below.trans ?_ (Below.mono (by with_reducible assumption) ?_)) | go_size | (dsimp only; omega)))⟩
  by_cases s2 : sg = -1
  · subst s2
    go_enter Try.func12, Try.ntmps12
    go_wp2
    exact bodyPost_ret (v := .tuple #[.agg #[.int .i64 0, .int .i64 0, .int .i64 0, .int .i64 0], .int .i64 2]) (by simp only [results, Try.results12]; go_simp) rfl ⟨rfl, (by repeat' (first | (with_reducible exact Below.refl _ _) | (with_reducible assumption) | (with_reducible refine below_drewN ?_ _) | (with_reducible refine Below.drew ?_) | (with_reducible refine Below.alloc ?_ ?_ _) | (with_reducible refine Below.setCell ?_ ?_ _) | (with_reducible refine Below.trans ?_ (Below.mono (by with_reducible assumption) ?_)) | go_size | (dsimp only; omega)))⟩
  · have s3 : (sg == 1) = false := by simpa using s1
    have s4 : (sg == -1) = false := by simpa using s2
    go_enter Try.func12, Try.ntmps12
    go_wp2
    exact bodyPost_ret (v := .tuple #[.agg #[.int .i64 0, .int .i64 0, .int .i64 0, .int .i64 0], .int .i64 2]) (by simp only [results, Try.results12]; go_simp) rfl ⟨rfl, (by repeat' (first | (with_reducible exact Below.refl _ _) | (with_reducible assumption) | (with_reducible refine below_drewN ?_ _) | (with_reducible refine Below.drew ?_) | (with_reducible refine Below.alloc ?_ ?_ _) | (with_reducible refine Below.setCell ?_ ?_ _) | (with_reducible refine Below.trans ?_ (Below.mono (by with_reducible assumption) ?_)) | go_size | (dsimp only; omega)))⟩
theorem sMatrixOfChain_c (sg : Int) (wsg : (Lit.int .i64 sg).wf = true) (v : Value) (zs : List Int) (w : World) (h : InI w v zs) (hm : zs.length ≤ 1000000000) :
    Calls Try.prog 12 #[.int .i64 sg, v] w fun e w' => e = .returned (chainV sg zs) ∧ Below w.heap.size w w' := by
  rcases h with ⟨rfl, a, c, rfl⟩ | ⟨b, o, c, rfl, hb, hr⟩
  · exact sMatrixOfChain_nil sg a c w
  · by_cases h0 : zs = []
    · subst h0; exact sMatrixOfChain_nil sg _ c w
    · exact sMatrixOfChain_row sg b o c zs w hb hr hm h0
end Go.Proofs.Ytgpnfjpnbchglaa
