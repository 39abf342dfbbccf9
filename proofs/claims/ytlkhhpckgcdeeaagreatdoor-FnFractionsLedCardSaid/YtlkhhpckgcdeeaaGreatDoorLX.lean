/- ParseFraction, ParseMatrix: the laws. -/
import Derived.Test.YtlkhhpckgcdeeaaGreatDoorTI
import Derived.LaidLaws
import Derived.Lib.LaidU8
import Derived.Test.YtlkhhpckgcdeeaaGreatDoorRows
import Derived.Test.YtlkhhpckgcdeeaaGreatDoorLF
namespace Go
variable {H : Type} {enc : TypeId × Value → H}
/-- as returnsInHanded_of_change_and, the world's shape kept -/
theorem returnsInHanded_of_change_and_shaped {a : Assume} {C : Checked} {os : Os} {f : FuncId} {fn : Func} {s : ChangeSpec} {conds : List PathCond} {apart fresh handsOn again : Bool} {X : World → Array Value → Prop}
    (hX : ∀ (w w' : World) (args : Array Value), w.heap = w'.heap → X w args → X w' args)
    (own : ownKnob C.prog.godebug = none) (started : os.Started) (noInit : C.prog.inits.idxOf? f = none) (hfn : C.prog.funcs[f]? = some fn)
    (witness : ∃ (w : World) (tape : Tape) (i : Input), w.os = os ∧ (w.forCall tape i).Shaped C.prog ∧ i.vars = [] ∧ Input.okWide C.prog (w.forCall tape i) .any w.heap.size f i ∧
      ((s.pre enc C.prog fn conds apart (w.forCall tape i).memory i.args ∧ X (w.forCall tape i).memory i.args) ∧ sizedMet enc C.prog fn (OpenSpec.ofChange s) apart (w.forCall tape i).memory i.args) ∧ a.holds C.prog (lone (Frame.enter C.prog f i.args .normal) [] (w.forCall tape i)))
    (contract : ∀ (W : World) (base : Nat) (args : Array Value) (ds gs : List (DataW H)) (before : List MemPlace),
      (∀ (j : Nat) t v, fn.params[j]? = some t → args[j]? = some v → Value.okWide C.prog W .any base t v) →
      DataW.Whole enc C.prog fn.params.toList s.vars apart W args.toList ds gs before →
      conds.all (PathCond.test C.prog ⟨fn.params.toList, ds, s.plain.varTypes C.prog, gs⟩) = true →
      (DataW.weightsEach C.prog (fn.params.toList ++ s.plain.varTypes C.prog) (ds ++ gs)).all (· ≤ reachBytes) = true → X W args →
      W.ShapedOpen C.prog →
      a.holds C.prog (lone (Frame.enter C.prog f args .normal) [] W) →
      Calls C.prog f args W fun e W' => ∃ v, e = .returned v ∧ s.post enc C.prog fn apart fresh handsOn again W args v W') :
    ReturnsInHanded a C os f .any (fun w args => (s.pre enc C.prog fn conds apart w args ∧ X w args) ∧ sizedMet enc C.prog fn (OpenSpec.ofChange s) apart w args) (s.post enc C.prog fn apart fresh handsOn again) := by
  refine returnsInHanded_of_calls own started noInit witness ?_
  intro w tape i _ hsh _ hok hpre hholds
  obtain ⟨_, _, _, fn', hfn', _, _, _, _, hval⟩ := hok
  have e : fn' = fn := Option.some.inj (hfn'.symm.trans hfn)
  subst e
  obtain ⟨⟨⟨ds, gs, before, hw, hc⟩, hx⟩, hz⟩ := hpre
  have hw' := DataW.Whole.of_heap (w' := w.forCall tape i) (by rfl) hw
  refine (contract (w.forCall tape i) w.heap.size i.args ds gs before hval hw' hc (hz.weights hw) (hX _ _ _ (by rfl) hx) hsh hholds).mono fun e W' ⟨v, he, hp⟩ => ?_
  subst he
  exact ChangeSpec.post_blind hp
end Go
namespace Go.Proofs.YtlkhhpckgcdeeaaGreatDoor
open Go.RowKit
set_option linter.unusedVariables false
set_option linter.unusedSimpArgs false
theorem cell_lt {w : World} {a : Addr} {v : Value} (h : w.cell? a = some v) : a.block < w.heap.size := by
  by_cases hlt : a.block < w.heap.size
  · exact hlt
  · exfalso
    unfold World.cell? at h
    rw [Array.getElem?_eq_none (by omega)] at h
    cases h
/-- a listed variable of an interface's type holds some value -/
theorem iface_of_reads {P : Program} {W : World} {name : String} {g : Nat} {t : TypeId} {ms : Array (String × TypeId)} {nm : String} {d : DataW Unit}
    (hg : P.globalNamed name = some g) (hty : (P.globals[g]?).map (·.type) = some t) (ht : P.underlying t = some (.interface ms))
    (h : Lib.VarReads P W name (.iface nm d)) : ∃ u v, W.cell? ⟨g, 0, none⟩ = some (.iface u v) := by
  obtain ⟨g', t', cs, fuel, p, hg', ht', hvar, hd⟩ := h
  obtain rfl := Option.some.inj (hg.symm.trans hg')
  obtain rfl := Option.some.inj (hty.symm.trans ht')
  obtain ⟨f, u, v, hcs, -, -⟩ := iface_of_trod ht hd
  refine ⟨u, v, ?_⟩
  simp only [World.var?, hg, Option.bind_some] at hvar
  cases ho : W.heap[g]? with
  | none => rw [ho] at hvar; cases hvar
  | some o =>
    cases o <;> rw [ho] at hvar <;> simp at hvar
    subst hvar
    simp only [World.cell?, ho]
    rename_i c t r
    have : c[0]? = some (.iface u v) := by rw [← Array.getElem?_toList, hcs]; rfl
    simpa using this
theorem parseF_form (l : List UInt8) : ∃ p q c : Int, parseF l = .tuple #[.agg #[.int .i64 p, .int .i64 q], .int .i64 c] := by
  unfold parseF
  split <;> exact ⟨_, _, _, rfl⟩
theorem parseM_form (l : List UInt8) : ∃ p q r s c : Int, parseM l = .tuple #[.agg #[.int .i64 p, .int .i64 q, .int .i64 r, .int .i64 s], .int .i64 c] := by
  unfold parseM
  split <;> exact ⟨_, _, _, _, _, rfl⟩
end Go.Proofs.YtlkhhpckgcdeeaaGreatDoor

/- What the library's variables hold when the laws FnMatrixProducts, FnFractionsLed begin. -/
namespace Go.Proofs.YtlkhhpckgcdeeaaGreatDoor
open Go.RowKit
set_option linter.unusedVariables false
set_option linter.unusedSimpArgs false
theorem vars_FnMatrixProducts {W : World} (hL : laidMetH Tryz.prog Rows.fnMatrixProductsRow.laid W) (hS : W.ShapedOpen Tryz.prog) : ∃ m t1 t2 p1 p2, Vars W m t1 t2 p1 p2 := by
  rw [MakeChecks.laidMetH_plain _ _ _ (by kernel_rfl)] at hL
  have hd : (("internal/strconv.uint64pow10", Lib.tabData .u64 Lib.pow10Tab) : String × DataW Unit) ∈ Rows.fnMatrixProductsRow.laid := by
    have : (Rows.laid_internal_strconv_uint64pow10 : DataW Unit) = Lib.tabData .u64 Lib.pow10Tab := by kernel_rfl
    rw [← this]
    simp [Rows.fnMatrixProductsRow]
  have ht : Lib.TabIs Tryz.prog W "internal/strconv.uint64pow10" .u64 Lib.pow10Tab := tabIs_of_reads (g := 0) (t := 149) (e := 105) (n := 20) (by kernel_rfl) (by kernel_rfl) (by kernel_rfl) (by kernel_rfl) (by kernel_rfl) (by kernel_rfl) (Lib.laidMet.reads hL hd)
  have hs : (("strconv.ErrSyntax", Rows.laid_strconv_ErrSyntax) : String × DataW Unit) ∈ Rows.fnMatrixProductsRow.laid := by simp [Rows.fnMatrixProductsRow]
  have hr : (("strconv.ErrRange", Rows.laid_strconv_ErrRange) : String × DataW Unit) ∈ Rows.fnMatrixProductsRow.laid := by simp [Rows.fnMatrixProductsRow]
  obtain ⟨t1, p1, c1⟩ := iface_of_reads (g := 1) (t := 112) (ms := _) (by kernel_rfl) (by kernel_rfl) (show Tryz.prog.underlying 112 = some _ by exact Tryz.underlying112) (Lib.laidMet.reads hL hs)
  obtain ⟨t2, p2, c2⟩ := iface_of_reads (g := 2) (t := 112) (ms := _) (by kernel_rfl) (by kernel_rfl) (show Tryz.prog.underlying 112 = some _ by exact Tryz.underlying112) (Lib.laidMet.reads hL hr)
  obtain ⟨m, c0⟩ := cell_of_shapedOpen_int (g := 3) (t := 3) (k := .i64) (zero := #[.int .i64 0]) hS (of_decide_eq_true (by kernel_rfl)) (by kernel_rfl) (by rfl) (by kernel_rfl) (by kernel_rfl) (by kernel_rfl)
  have keep : ∀ {a : Addr} {v : Value}, W.cell? a = some v → ∀ W2, Below W.heap.size W W2 → W2.cell? a = some v := fun hc W2 hb => by rw [hb.cell (cell_lt hc)]; exact hc
  exact ⟨m, t1, t2, p1, p2, keep c0, keep c1, keep c2, Lib.tabBelow_of_tabIs ht⟩
theorem vars_FnFractionsLed {W : World} (hL : laidMetH Tryz.prog Rows.fnFractionsLedRow.laid W) (hS : W.ShapedOpen Tryz.prog) : ∃ m t1 t2 p1 p2, Vars W m t1 t2 p1 p2 := by
  rw [MakeChecks.laidMetH_plain _ _ _ (by kernel_rfl)] at hL
  have hd : (("internal/strconv.uint64pow10", Lib.tabData .u64 Lib.pow10Tab) : String × DataW Unit) ∈ Rows.fnFractionsLedRow.laid := by
    have : (Rows.laid_internal_strconv_uint64pow10 : DataW Unit) = Lib.tabData .u64 Lib.pow10Tab := by kernel_rfl
    rw [← this]
    simp [Rows.fnFractionsLedRow]
  have ht : Lib.TabIs Tryz.prog W "internal/strconv.uint64pow10" .u64 Lib.pow10Tab := tabIs_of_reads (g := 0) (t := 149) (e := 105) (n := 20) (by kernel_rfl) (by kernel_rfl) (by kernel_rfl) (by kernel_rfl) (by kernel_rfl) (by kernel_rfl) (Lib.laidMet.reads hL hd)
  have hs : (("strconv.ErrSyntax", Rows.laid_strconv_ErrSyntax) : String × DataW Unit) ∈ Rows.fnFractionsLedRow.laid := by simp [Rows.fnFractionsLedRow]
  have hr : (("strconv.ErrRange", Rows.laid_strconv_ErrRange) : String × DataW Unit) ∈ Rows.fnFractionsLedRow.laid := by simp [Rows.fnFractionsLedRow]
  obtain ⟨t1, p1, c1⟩ := iface_of_reads (g := 1) (t := 112) (ms := _) (by kernel_rfl) (by kernel_rfl) (show Tryz.prog.underlying 112 = some _ by exact Tryz.underlying112) (Lib.laidMet.reads hL hs)
  obtain ⟨t2, p2, c2⟩ := iface_of_reads (g := 2) (t := 112) (ms := _) (by kernel_rfl) (by kernel_rfl) (show Tryz.prog.underlying 112 = some _ by exact Tryz.underlying112) (Lib.laidMet.reads hL hr)
  obtain ⟨m, c0⟩ := cell_of_shapedOpen_int (g := 3) (t := 3) (k := .i64) (zero := #[.int .i64 0]) hS (of_decide_eq_true (by kernel_rfl)) (by kernel_rfl) (by rfl) (by kernel_rfl) (by kernel_rfl) (by kernel_rfl)
  have keep : ∀ {a : Addr} {v : Value}, W.cell? a = some v → ∀ W2, Below W.heap.size W W2 → W2.cell? a = some v := fun hc W2 hb => by rw [hb.cell (cell_lt hc)]; exact hc
  exact ⟨m, t1, t2, p1, p2, keep c0, keep c1, keep c2, Lib.tabBelow_of_tabIs ht⟩
end Go.Proofs.YtlkhhpckgcdeeaaGreatDoor

/- The law FnFractionsLed, as its row wants it. -/
namespace Go.Proofs.YtlkhhpckgcdeeaaGreatDoor
open Go.RowKit
theorem FnFractionsLed_wL (a : Option Addr) (len cap : Nat) (zs0 : List Int) (W : World) (hr : IsRow .u8 W a len cap zs0) (hl : len * 1 ≤ 140737488351232) (hL : laidMetH Tryz.prog Rows.fnFractionsLedRow.laid W) (hS : W.ShapedOpen Tryz.prog) :
    Calls Tryz.prog 3 #[.slice a len cap] W fun e w' => e = .returned (.bool true) ∧ Below W.heap.size W w' :=
  FnFractionsLed_w a len cap zs0 W hr hl (vars_FnFractionsLed hL hS)
end Go.Proofs.YtlkhhpckgcdeeaaGreatDoor
