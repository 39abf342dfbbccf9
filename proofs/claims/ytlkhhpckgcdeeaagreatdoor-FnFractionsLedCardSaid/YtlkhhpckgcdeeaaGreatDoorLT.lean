/- FnFractionsLed: its parts, each by itself. [genLF.py] -/
import Derived.Test.YtlkhhpckgcdeeaaGreatDoorJK
import Derived.Test.YtlkhhpckgcdeeaaGreatDoorGT
import Derived.Test.YtlkhhpckgcdeeaaGreatDoorGY
import Derived.Test.YtlkhhpckgcdeeaaGreatDoorGU
import Derived.Test.YtlkhhpckgcdeeaaGreatDoorGX
import Derived.Test.YtlkhhpckgcdeeaaGreatDoorGI
import Derived.Deep.DeepCutAuto
import Derived.Test.YtlkhhpckgcdeeaaGreatDoorRG
import Derived.Deep.Light
namespace Go.Proofs.YtlkhhpckgcdeeaaGreatDoor
open Go.RowKit
set_option linter.unusedVariables false
set_option linter.unusedSimpArgs false
attribute [local go_sem] run_equalIn_M run_equalIn_Q
def condOf (n : Nat) : Code → Option Code
  | .cond o a b => match (match o with | .tmp k => k == n | _ => false) with
    | true => some (.cond o a b)
    | false => match condOf n a with
      | some c => some c
      | none => condOf n b
  | .seq a b => match condOf n a with
    | some c => some c
    | none => condOf n b
  | .block _ c => condOf n c
  | .scope c => condOf n c
  | .loop c => condOf n c
  | _ => none
set_option maxRecDepth 1000000 in
set_option maxHeartbeats 8000000 in
theorem fsec1_c {KK : Act → World → Prop} {Q0 : Exit → Act → World → Prop} (W w : World) (hBw : Below W.heap.size W w) (lWw : W.heap.size ≤ w.heap.size) (vm : Int) (vt1 vt2 : TypeId) (vp1 vp2 : Value) (HV : Hid (∀ w, Below W.heap.size W w → Vars w vm vt1 vt2 vp1 vp2)) (bm bf bx : Nat) (m0 m1 m2 m3 f0 f1 x0 x1 x2 : Int) (HX : Hid (x2 = 0 → isM m0 m1 m2 m3 = true ∧ isF f0 f1 = true ∧ isF x0 x1 = true ∧ Hid (RetF 7 #[.agg #[.int .i64 m3, .int .i64 (-m1), .int .i64 (-m2), .int .i64 m0], .agg #[.int .i64 x0, .int .i64 x1]] (.tuple #[.agg #[.int .i64 f0, .int .i64 f1], .int .i64 0])))) (cw_bm_0 : w.cell? ⟨bm, 0, none⟩ = some (.int .i64 m0)) (cw_bm_1 : w.cell? ⟨bm, 1, none⟩ = some (.int .i64 m1)) (cw_bm_2 : w.cell? ⟨bm, 2, none⟩ = some (.int .i64 m2)) (cw_bm_3 : w.cell? ⟨bm, 3, none⟩ = some (.int .i64 m3)) (cw_bf_0 : w.cell? ⟨bf, 0, none⟩ = some (.int .i64 f0)) (cw_bf_1 : w.cell? ⟨bf, 1, none⟩ = some (.int .i64 f1)) (cw_bx_0 : w.cell? ⟨bx, 0, none⟩ = some (.int .i64 x0)) (cw_bx_1 : w.cell? ⟨bx, 1, none⟩ = some (.int .i64 x1)) (cw_bm_l : bm < w.heap.size) (cw_bf_l : bf < w.heap.size) (cw_bx_l : bx < w.heap.size) (L0 L1 L2 L7 L8 L9 L10 L11 L12 L13 L14 L15 L16 L17 L18 L19 L20 L21 L22 L23 L24 L25 L26 L27 L28 L29 L30 L31 L32 L33 L34 L35 L36 L37 L38 L39 L40 L41 L42 L43 L44 L45 L46 L47 L48 L49 L50 L51 L52 L53 L54 L55 L56 L57 L58 L59 L60 L61 L62 L63 L64 L65 L66 L67 L68 L69 L70 L71 L72 L73 L74 L75 L76 L77 L78 L79 L80 L81 L82 L83 L84 L85 L86 L87 L88 L89 L90 L91 L92 L93 L94 L95 L97 L98 L99 L100 L101 L102 L103 L104 L105 L106 L107 L108 L109 L110 L111 L112 L113 L114 L115 L116 L117 L118 L119 L120 L121 L122 L123 L124 L125 L126 L127 L128 L129 L130 L131 L132 L133 L134 L135 L136 L137 L138 L139 L140 L141 L142 L143 L144 L145 L146 L147 L148 L149 L150 L151 L152 L153 L154 L155 L156 L157 L158 L159 L160 L161 L162 L163 L164 L165 L166 L167 L168 L169 L170 L171 L172 L173 L174 L175 L176 L177 L178 L179 L180 L181 L182 L183 L184 L185 L186 L187 L188 L189 L190 L191 L192 L193 L194 L195 L196 L197 L198 L199 L200 L201 L202 L203 L204 L205 L206 L207 L208 L209 L210 L211 L212 L213 L214 L215 L216 L217 L218 L219 L220 L221 L222 L223 L224 L225 L226 L227 L228 L229 L230 L231 L232 L233 L234 L235 L236 L237 L238 L239 L240 L241 L242 L243 L244 L245 L246 L247 L248 L249 L250 L251 L252 L253 L254 L255 L256 L257 L258 L259 L260 L261 L262 L263 L264 L265 L266 L267 L268 L269 L270 L271 L272 L273 L274 L275 L276 L277 L278 L279 L280 L281 L282 L283 L284 L285 L286 L287 L288 L289 L290 L291 L292 L293 L294 L295 L296 L297 L298 L299 L300 L301 L302 L303 L304 L305 L306 L307 L308 L309 L310 L311 L312 L313 L314 L315 L316 L317 L318 L319 L320 L321 L322 L323 L324 L325 L326 L327 L328 L329 L330 L331 L332 L333 L334 L335 L336 L337 L338 L339 L340 L341 L342 L343 L344 L345 L346 L347 L348 L349 L350 L351 L352 L353 L354 L355 L356 L357 L358 L359 L360 L361 L362 L363 L364 L365 L366 L367 L368 L369 L370 L371 L372 L373 L374 L375 L376 L377 L378 L379 L380 L381 L382 L383 L384 L385 L386 L387 L388 L389 L390 L391 L392 : Value)
    (hfin : ∀ (v9 v10 v11 v12 v13 v14 v15 v16 v97 v98 v99 v100 v101 v102 v103 v104 v105 v106 v107 v108 v109 v110 v111 v112 v113 v114 v115 v116 v117 v118 v119 v120 v121 v122 v123 v124 v125 v126 v127 v128 v129 v130 v131 v132 v133 v134 v135 v136 v137 v138 v139 v140 v141 v142 v143 v144 v145 v146 : Value) (wx : World), (Below W.heap.size W wx) → KK ⟨#[L0, L1, L2, .pointer (some ⟨bm, 0, none⟩), .pointer (some ⟨bf, 0, none⟩), .pointer (some ⟨bx, 0, none⟩), .int .i64 x2, L7, L8, v9, v10, v11, v12, v13, v14, v15, v16, L17, L18, L19, L20, L21, L22, L23, L24, L25, L26, L27, L28, L29, L30, L31, L32, L33, L34, L35, L36, L37, L38, L39, L40, L41, L42, L43, L44, L45, L46, L47, L48, L49, L50, L51, L52, L53, L54, L55, L56, L57, L58, L59, L60, L61, L62, L63, L64, L65, L66, L67, L68, L69, L70, L71, L72, L73, L74, L75, L76, L77, L78, L79, L80, L81, L82, L83, L84, L85, L86, L87, L88, L89, L90, L91, L92, L93, L94, L95, .bool (x2 == 0), v97, v98, v99, v100, v101, v102, v103, v104, v105, v106, v107, v108, v109, v110, v111, v112, v113, v114, v115, v116, v117, v118, v119, v120, v121, v122, v123, v124, v125, v126, v127, v128, v129, v130, v131, v132, v133, v134, v135, v136, v137, v138, v139, v140, v141, v142, v143, v144, v145, v146, L147, L148, L149, L150, L151, L152, L153, L154, L155, L156, L157, L158, L159, L160, L161, L162, L163, L164, L165, L166, L167, L168, L169, L170, L171, L172, L173, L174, L175, L176, L177, L178, L179, L180, L181, L182, L183, L184, L185, L186, L187, L188, L189, L190, L191, L192, L193, L194, L195, L196, L197, L198, L199, L200, L201, L202, L203, L204, L205, L206, L207, L208, L209, L210, L211, L212, L213, L214, L215, L216, L217, L218, L219, L220, L221, L222, L223, L224, L225, L226, L227, L228, L229, L230, L231, L232, L233, L234, L235, L236, L237, L238, L239, L240, L241, L242, L243, L244, L245, L246, L247, L248, L249, L250, L251, L252, L253, L254, L255, L256, L257, L258, L259, L260, L261, L262, L263, L264, L265, L266, L267, L268, L269, L270, L271, L272, L273, L274, L275, L276, L277, L278, L279, L280, L281, L282, L283, L284, L285, L286, L287, L288, L289, L290, L291, L292, L293, L294, L295, L296, L297, L298, L299, L300, L301, L302, L303, L304, L305, L306, L307, L308, L309, L310, L311, L312, L313, L314, L315, L316, L317, L318, L319, L320, L321, L322, L323, L324, L325, L326, L327, L328, L329, L330, L331, L332, L333, L334, L335, L336, L337, L338, L339, L340, L341, L342, L343, L344, L345, L346, L347, L348, L349, L350, L351, L352, L353, L354, L355, L356, L357, L358, L359, L360, L361, L362, L363, L364, L365, L366, L367, L368, L369, L370, L371, L372, L373, L374, L375, L376, L377, L378, L379, L380, L381, L382, L383, L384, L385, L386, L387, L388, L389, L390, L391, L392], []⟩ wx) :
    Code.wp Tryz.prog ((Tryz.f3.body.bind (condOf 96)).getD .skip) (Exit.then KK Q0) ⟨#[L0, L1, L2, .pointer (some ⟨bm, 0, none⟩), .pointer (some ⟨bf, 0, none⟩), .pointer (some ⟨bx, 0, none⟩), .int .i64 x2, L7, L8, L9, L10, L11, L12, L13, L14, L15, L16, L17, L18, L19, L20, L21, L22, L23, L24, L25, L26, L27, L28, L29, L30, L31, L32, L33, L34, L35, L36, L37, L38, L39, L40, L41, L42, L43, L44, L45, L46, L47, L48, L49, L50, L51, L52, L53, L54, L55, L56, L57, L58, L59, L60, L61, L62, L63, L64, L65, L66, L67, L68, L69, L70, L71, L72, L73, L74, L75, L76, L77, L78, L79, L80, L81, L82, L83, L84, L85, L86, L87, L88, L89, L90, L91, L92, L93, L94, L95, .bool (x2 == 0), L97, L98, L99, L100, L101, L102, L103, L104, L105, L106, L107, L108, L109, L110, L111, L112, L113, L114, L115, L116, L117, L118, L119, L120, L121, L122, L123, L124, L125, L126, L127, L128, L129, L130, L131, L132, L133, L134, L135, L136, L137, L138, L139, L140, L141, L142, L143, L144, L145, L146, L147, L148, L149, L150, L151, L152, L153, L154, L155, L156, L157, L158, L159, L160, L161, L162, L163, L164, L165, L166, L167, L168, L169, L170, L171, L172, L173, L174, L175, L176, L177, L178, L179, L180, L181, L182, L183, L184, L185, L186, L187, L188, L189, L190, L191, L192, L193, L194, L195, L196, L197, L198, L199, L200, L201, L202, L203, L204, L205, L206, L207, L208, L209, L210, L211, L212, L213, L214, L215, L216, L217, L218, L219, L220, L221, L222, L223, L224, L225, L226, L227, L228, L229, L230, L231, L232, L233, L234, L235, L236, L237, L238, L239, L240, L241, L242, L243, L244, L245, L246, L247, L248, L249, L250, L251, L252, L253, L254, L255, L256, L257, L258, L259, L260, L261, L262, L263, L264, L265, L266, L267, L268, L269, L270, L271, L272, L273, L274, L275, L276, L277, L278, L279, L280, L281, L282, L283, L284, L285, L286, L287, L288, L289, L290, L291, L292, L293, L294, L295, L296, L297, L298, L299, L300, L301, L302, L303, L304, L305, L306, L307, L308, L309, L310, L311, L312, L313, L314, L315, L316, L317, L318, L319, L320, L321, L322, L323, L324, L325, L326, L327, L328, L329, L330, L331, L332, L333, L334, L335, L336, L337, L338, L339, L340, L341, L342, L343, L344, L345, L346, L347, L348, L349, L350, L351, L352, L353, L354, L355, L356, L357, L358, L359, L360, L361, L362, L363, L364, L365, L366, L367, L368, L369, L370, L371, L372, L373, L374, L375, L376, L377, L378, L379, L380, L381, L382, L383, L384, L385, L386, L387, L388, L389, L390, L391, L392], []⟩ w := by
  conv => arg 2; whnf
  by_cases h1 : x2 = 0
  · obtain ⟨hM, hF, hX, KL⟩ := HX.out h1
    subst h1
    have HM := Lib.hid hM
    have HXF := Lib.hid hX
    obtain ⟨S, hS⟩ : ∃ S : ByteArray, (⟨(joinT [x0, x1] 47).toArray⟩ : ByteArray) = S := ⟨_, rfl⟩
    have K4 : Hid (∀ w, Below W.heap.size W w → Calls Tryz.prog 12 #[.agg #[.int .i64 x0, .int .i64 x1]] w fun e w' => e = .returned (.tuple #[.string S, .int .i64 0]) ∧ Below w.heap.size w w') := Lib.hid (fun w h => by rw [← hS]; exact FractionText_yes x0 x1 w HXF.out (Lib.hid (HV.out w h).tab))
    have K5 : Hid (∀ w, Below W.heap.size W w → Calls Tryz.prog 13 #[.string S] w fun e w' => e = .returned (.tuple #[.agg #[.int .i64 x0, .int .i64 x1], .int .i64 0]) ∧ Below w.heap.size w w') := Lib.hid (fun w h => by
      have h5 := ParseFraction_c S w vm vt1 vt2 vp1 vp2 (by rw [← hS]; have := read_sizeF HXF.out; omega) (Lib.hid (HV.out w h))
      rw [← hS] at h5 ⊢
      rw [show (⟨(joinT [x0, x1] 47).toArray⟩ : ByteArray).data.toList = joinT [x0, x1] 47 by simp, read_textF HXF.out] at h5
      exact h5)
    clear hM hF hX hS
    go_wp2_with fail
    refine (InverseOf_yes m0 m1 m2 m3 _ HM.out).mono ?_
    rintro e w1 ⟨rfl, bw1⟩
    have zw1 : w.heap.size ≤ w1.heap.size := bw1.size
    have cw1_bm_0 : w1.cell? ⟨bm, 0, none⟩ = some (.int .i64 m0) := by rw [bw1.cell (p := ⟨bm, 0, none⟩) (by dsimp only; omega)]; exact cw_bm_0
    have cw1_bm_1 : w1.cell? ⟨bm, 1, none⟩ = some (.int .i64 m1) := by rw [bw1.cell (p := ⟨bm, 1, none⟩) (by dsimp only; omega)]; exact cw_bm_1
    have cw1_bm_2 : w1.cell? ⟨bm, 2, none⟩ = some (.int .i64 m2) := by rw [bw1.cell (p := ⟨bm, 2, none⟩) (by dsimp only; omega)]; exact cw_bm_2
    have cw1_bm_3 : w1.cell? ⟨bm, 3, none⟩ = some (.int .i64 m3) := by rw [bw1.cell (p := ⟨bm, 3, none⟩) (by dsimp only; omega)]; exact cw_bm_3
    have cw1_bm_l : bm < w1.heap.size := by omega
    have cw1_bf_0 : w1.cell? ⟨bf, 0, none⟩ = some (.int .i64 f0) := by rw [bw1.cell (p := ⟨bf, 0, none⟩) (by dsimp only; omega)]; exact cw_bf_0
    have cw1_bf_1 : w1.cell? ⟨bf, 1, none⟩ = some (.int .i64 f1) := by rw [bw1.cell (p := ⟨bf, 1, none⟩) (by dsimp only; omega)]; exact cw_bf_1
    have cw1_bf_l : bf < w1.heap.size := by omega
    have cw1_bx_0 : w1.cell? ⟨bx, 0, none⟩ = some (.int .i64 x0) := by rw [bw1.cell (p := ⟨bx, 0, none⟩) (by dsimp only; omega)]; exact cw_bx_0
    have cw1_bx_1 : w1.cell? ⟨bx, 1, none⟩ = some (.int .i64 x1) := by rw [bw1.cell (p := ⟨bx, 1, none⟩) (by dsimp only; omega)]; exact cw_bx_1
    have cw1_bx_l : bx < w1.heap.size := by omega
    have lWw1 : W.heap.size ≤ w1.heap.size := by omega
    have hBw1 : Below W.heap.size W w1 := hBw.trans (bw1.mono (by omega))
    clear zw1 bw1 cw_bm_0 cw_bm_1 cw_bm_2 cw_bm_3 cw_bm_l cw_bf_0 cw_bf_1 cw_bf_l cw_bx_0 cw_bx_1 cw_bx_l lWw hBw
    go_wp2_with fail
    generalize hww2 : World.alloc _ _ = w2
    obtain ⟨bk, hbk⟩ : ∃ b, w1.heap.size = b := ⟨_, rfl⟩
    have bbw2 : Below bk w1 w2 := by subst hww2 hbk; exact (by repeat' (first | (with_reducible exact Below.refl _ _) | (with_reducible assumption) | (with_reducible refine below_drewN ?_ _) | (with_reducible refine Below.drew ?_) | (with_reducible refine Below.alloc ?_ ?_ _) | (with_reducible refine Below.setCell ?_ ?_ _) | (with_reducible refine Below.trans ?_ (Below.mono (by with_reducible assumption) ?_)) | go_size | (dsimp only; omega)))
    have cw2_bk_0 : w2.cell? ⟨bk, 0, none⟩ = some (.int .i64 m3) := by subst hww2 hbk; first | (go_cell; done) | (go_simp; done)
    have cw2_bk_1 : w2.cell? ⟨bk, 1, none⟩ = some (.int .i64 (-m1)) := by subst hww2 hbk; first | (go_cell; done) | (go_simp; done)
    have cw2_bk_2 : w2.cell? ⟨bk, 2, none⟩ = some (.int .i64 (-m2)) := by subst hww2 hbk; first | (go_cell; done) | (go_simp; done)
    have cw2_bk_3 : w2.cell? ⟨bk, 3, none⟩ = some (.int .i64 m0) := by subst hww2 hbk; first | (go_cell; done) | (go_simp; done)
    have cw2_bk_l : bk < w2.heap.size := by subst hww2 hbk; go_size
    have yw2 := bbw2.size
    (try rw [hbk])
    clear hww2
    have zw2 : w1.heap.size ≤ w2.heap.size := yw2
    have cw2_bm_0 : w2.cell? ⟨bm, 0, none⟩ = some (.int .i64 m0) := by rw [bbw2.cell (p := ⟨bm, 0, none⟩) (by dsimp only; omega)]; exact cw1_bm_0
    have cw2_bm_1 : w2.cell? ⟨bm, 1, none⟩ = some (.int .i64 m1) := by rw [bbw2.cell (p := ⟨bm, 1, none⟩) (by dsimp only; omega)]; exact cw1_bm_1
    have cw2_bm_2 : w2.cell? ⟨bm, 2, none⟩ = some (.int .i64 m2) := by rw [bbw2.cell (p := ⟨bm, 2, none⟩) (by dsimp only; omega)]; exact cw1_bm_2
    have cw2_bm_3 : w2.cell? ⟨bm, 3, none⟩ = some (.int .i64 m3) := by rw [bbw2.cell (p := ⟨bm, 3, none⟩) (by dsimp only; omega)]; exact cw1_bm_3
    have cw2_bm_l : bm < w2.heap.size := by omega
    have cw2_bf_0 : w2.cell? ⟨bf, 0, none⟩ = some (.int .i64 f0) := by rw [bbw2.cell (p := ⟨bf, 0, none⟩) (by dsimp only; omega)]; exact cw1_bf_0
    have cw2_bf_1 : w2.cell? ⟨bf, 1, none⟩ = some (.int .i64 f1) := by rw [bbw2.cell (p := ⟨bf, 1, none⟩) (by dsimp only; omega)]; exact cw1_bf_1
    have cw2_bf_l : bf < w2.heap.size := by omega
    have cw2_bx_0 : w2.cell? ⟨bx, 0, none⟩ = some (.int .i64 x0) := by rw [bbw2.cell (p := ⟨bx, 0, none⟩) (by dsimp only; omega)]; exact cw1_bx_0
    have cw2_bx_1 : w2.cell? ⟨bx, 1, none⟩ = some (.int .i64 x1) := by rw [bbw2.cell (p := ⟨bx, 1, none⟩) (by dsimp only; omega)]; exact cw1_bx_1
    have cw2_bx_l : bx < w2.heap.size := by omega
    have lWw2 : W.heap.size ≤ w2.heap.size := by omega
    have hBw2 : Below W.heap.size W w2 := hBw1.trans (bbw2.mono (by omega))
    clear zw2 bbw2 cw1_bm_0 cw1_bm_1 cw1_bm_2 cw1_bm_3 cw1_bm_l cw1_bf_0 cw1_bf_1 cw1_bf_l cw1_bx_0 cw1_bx_1 cw1_bx_l lWw1 hBw1
    clear yw2 hbk
    refine (KL.out.get _).mono ?_
    rintro e w3 ⟨rfl, bw3⟩
    have zw3 : w2.heap.size ≤ w3.heap.size := bw3.size
    have cw3_bm_0 : w3.cell? ⟨bm, 0, none⟩ = some (.int .i64 m0) := by rw [bw3.cell (p := ⟨bm, 0, none⟩) (by dsimp only; omega)]; exact cw2_bm_0
    have cw3_bm_1 : w3.cell? ⟨bm, 1, none⟩ = some (.int .i64 m1) := by rw [bw3.cell (p := ⟨bm, 1, none⟩) (by dsimp only; omega)]; exact cw2_bm_1
    have cw3_bm_2 : w3.cell? ⟨bm, 2, none⟩ = some (.int .i64 m2) := by rw [bw3.cell (p := ⟨bm, 2, none⟩) (by dsimp only; omega)]; exact cw2_bm_2
    have cw3_bm_3 : w3.cell? ⟨bm, 3, none⟩ = some (.int .i64 m3) := by rw [bw3.cell (p := ⟨bm, 3, none⟩) (by dsimp only; omega)]; exact cw2_bm_3
    have cw3_bm_l : bm < w3.heap.size := by omega
    have cw3_bf_0 : w3.cell? ⟨bf, 0, none⟩ = some (.int .i64 f0) := by rw [bw3.cell (p := ⟨bf, 0, none⟩) (by dsimp only; omega)]; exact cw2_bf_0
    have cw3_bf_1 : w3.cell? ⟨bf, 1, none⟩ = some (.int .i64 f1) := by rw [bw3.cell (p := ⟨bf, 1, none⟩) (by dsimp only; omega)]; exact cw2_bf_1
    have cw3_bf_l : bf < w3.heap.size := by omega
    have cw3_bx_0 : w3.cell? ⟨bx, 0, none⟩ = some (.int .i64 x0) := by rw [bw3.cell (p := ⟨bx, 0, none⟩) (by dsimp only; omega)]; exact cw2_bx_0
    have cw3_bx_1 : w3.cell? ⟨bx, 1, none⟩ = some (.int .i64 x1) := by rw [bw3.cell (p := ⟨bx, 1, none⟩) (by dsimp only; omega)]; exact cw2_bx_1
    have cw3_bx_l : bx < w3.heap.size := by omega
    have cw3_bk_0 : w3.cell? ⟨bk, 0, none⟩ = some (.int .i64 m3) := by rw [bw3.cell (p := ⟨bk, 0, none⟩) (by dsimp only; omega)]; exact cw2_bk_0
    have cw3_bk_1 : w3.cell? ⟨bk, 1, none⟩ = some (.int .i64 (-m1)) := by rw [bw3.cell (p := ⟨bk, 1, none⟩) (by dsimp only; omega)]; exact cw2_bk_1
    have cw3_bk_2 : w3.cell? ⟨bk, 2, none⟩ = some (.int .i64 (-m2)) := by rw [bw3.cell (p := ⟨bk, 2, none⟩) (by dsimp only; omega)]; exact cw2_bk_2
    have cw3_bk_3 : w3.cell? ⟨bk, 3, none⟩ = some (.int .i64 m0) := by rw [bw3.cell (p := ⟨bk, 3, none⟩) (by dsimp only; omega)]; exact cw2_bk_3
    have cw3_bk_l : bk < w3.heap.size := by omega
    have lWw3 : W.heap.size ≤ w3.heap.size := by omega
    have hBw3 : Below W.heap.size W w3 := hBw2.trans (bw3.mono (by omega))
    clear zw3 bw3 cw2_bm_0 cw2_bm_1 cw2_bm_2 cw2_bm_3 cw2_bm_l cw2_bf_0 cw2_bf_1 cw2_bf_l cw2_bx_0 cw2_bx_1 cw2_bx_l cw2_bk_0 cw2_bk_1 cw2_bk_2 cw2_bk_3 cw2_bk_l lWw2 hBw2
    go_wp2_with fail
    generalize hww4 : World.alloc _ _ = w4
    obtain ⟨bg, hbg⟩ : ∃ b, w3.heap.size = b := ⟨_, rfl⟩
    have bbw4 : Below bg w3 w4 := by subst hww4 hbg; exact (by repeat' (first | (with_reducible exact Below.refl _ _) | (with_reducible assumption) | (with_reducible refine below_drewN ?_ _) | (with_reducible refine Below.drew ?_) | (with_reducible refine Below.alloc ?_ ?_ _) | (with_reducible refine Below.setCell ?_ ?_ _) | (with_reducible refine Below.trans ?_ (Below.mono (by with_reducible assumption) ?_)) | go_size | (dsimp only; omega)))
    have cw4_bg_0 : w4.cell? ⟨bg, 0, none⟩ = some (.int .i64 f0) := by subst hww4 hbg; first | (go_cell; done) | (go_simp; done)
    have cw4_bg_1 : w4.cell? ⟨bg, 1, none⟩ = some (.int .i64 f1) := by subst hww4 hbg; first | (go_cell; done) | (go_simp; done)
    have cw4_bg_l : bg < w4.heap.size := by subst hww4 hbg; go_size
    have yw4 := bbw4.size
    (try rw [hbg])
    clear hww4
    have zw4 : w3.heap.size ≤ w4.heap.size := yw4
    have cw4_bm_0 : w4.cell? ⟨bm, 0, none⟩ = some (.int .i64 m0) := by rw [bbw4.cell (p := ⟨bm, 0, none⟩) (by dsimp only; omega)]; exact cw3_bm_0
    have cw4_bm_1 : w4.cell? ⟨bm, 1, none⟩ = some (.int .i64 m1) := by rw [bbw4.cell (p := ⟨bm, 1, none⟩) (by dsimp only; omega)]; exact cw3_bm_1
    have cw4_bm_2 : w4.cell? ⟨bm, 2, none⟩ = some (.int .i64 m2) := by rw [bbw4.cell (p := ⟨bm, 2, none⟩) (by dsimp only; omega)]; exact cw3_bm_2
    have cw4_bm_3 : w4.cell? ⟨bm, 3, none⟩ = some (.int .i64 m3) := by rw [bbw4.cell (p := ⟨bm, 3, none⟩) (by dsimp only; omega)]; exact cw3_bm_3
    have cw4_bm_l : bm < w4.heap.size := by omega
    have cw4_bf_0 : w4.cell? ⟨bf, 0, none⟩ = some (.int .i64 f0) := by rw [bbw4.cell (p := ⟨bf, 0, none⟩) (by dsimp only; omega)]; exact cw3_bf_0
    have cw4_bf_1 : w4.cell? ⟨bf, 1, none⟩ = some (.int .i64 f1) := by rw [bbw4.cell (p := ⟨bf, 1, none⟩) (by dsimp only; omega)]; exact cw3_bf_1
    have cw4_bf_l : bf < w4.heap.size := by omega
    have cw4_bx_0 : w4.cell? ⟨bx, 0, none⟩ = some (.int .i64 x0) := by rw [bbw4.cell (p := ⟨bx, 0, none⟩) (by dsimp only; omega)]; exact cw3_bx_0
    have cw4_bx_1 : w4.cell? ⟨bx, 1, none⟩ = some (.int .i64 x1) := by rw [bbw4.cell (p := ⟨bx, 1, none⟩) (by dsimp only; omega)]; exact cw3_bx_1
    have cw4_bx_l : bx < w4.heap.size := by omega
    have cw4_bk_0 : w4.cell? ⟨bk, 0, none⟩ = some (.int .i64 m3) := by rw [bbw4.cell (p := ⟨bk, 0, none⟩) (by dsimp only; omega)]; exact cw3_bk_0
    have cw4_bk_1 : w4.cell? ⟨bk, 1, none⟩ = some (.int .i64 (-m1)) := by rw [bbw4.cell (p := ⟨bk, 1, none⟩) (by dsimp only; omega)]; exact cw3_bk_1
    have cw4_bk_2 : w4.cell? ⟨bk, 2, none⟩ = some (.int .i64 (-m2)) := by rw [bbw4.cell (p := ⟨bk, 2, none⟩) (by dsimp only; omega)]; exact cw3_bk_2
    have cw4_bk_3 : w4.cell? ⟨bk, 3, none⟩ = some (.int .i64 m0) := by rw [bbw4.cell (p := ⟨bk, 3, none⟩) (by dsimp only; omega)]; exact cw3_bk_3
    have cw4_bk_l : bk < w4.heap.size := by omega
    have lWw4 : W.heap.size ≤ w4.heap.size := by omega
    have hBw4 : Below W.heap.size W w4 := hBw3.trans (bbw4.mono (by omega))
    clear zw4 bbw4 cw3_bm_0 cw3_bm_1 cw3_bm_2 cw3_bm_3 cw3_bm_l cw3_bf_0 cw3_bf_1 cw3_bf_l cw3_bx_0 cw3_bx_1 cw3_bx_l cw3_bk_0 cw3_bk_1 cw3_bk_2 cw3_bk_3 cw3_bk_l lWw3 hBw3
    clear yw4 hbg
    refine (K4.out _ hBw4).mono ?_
    rintro e w5 ⟨rfl, bw5⟩
    have zw5 : w4.heap.size ≤ w5.heap.size := bw5.size
    have cw5_bm_0 : w5.cell? ⟨bm, 0, none⟩ = some (.int .i64 m0) := by rw [bw5.cell (p := ⟨bm, 0, none⟩) (by dsimp only; omega)]; exact cw4_bm_0
    have cw5_bm_1 : w5.cell? ⟨bm, 1, none⟩ = some (.int .i64 m1) := by rw [bw5.cell (p := ⟨bm, 1, none⟩) (by dsimp only; omega)]; exact cw4_bm_1
    have cw5_bm_2 : w5.cell? ⟨bm, 2, none⟩ = some (.int .i64 m2) := by rw [bw5.cell (p := ⟨bm, 2, none⟩) (by dsimp only; omega)]; exact cw4_bm_2
    have cw5_bm_3 : w5.cell? ⟨bm, 3, none⟩ = some (.int .i64 m3) := by rw [bw5.cell (p := ⟨bm, 3, none⟩) (by dsimp only; omega)]; exact cw4_bm_3
    have cw5_bm_l : bm < w5.heap.size := by omega
    have cw5_bf_0 : w5.cell? ⟨bf, 0, none⟩ = some (.int .i64 f0) := by rw [bw5.cell (p := ⟨bf, 0, none⟩) (by dsimp only; omega)]; exact cw4_bf_0
    have cw5_bf_1 : w5.cell? ⟨bf, 1, none⟩ = some (.int .i64 f1) := by rw [bw5.cell (p := ⟨bf, 1, none⟩) (by dsimp only; omega)]; exact cw4_bf_1
    have cw5_bf_l : bf < w5.heap.size := by omega
    have cw5_bx_0 : w5.cell? ⟨bx, 0, none⟩ = some (.int .i64 x0) := by rw [bw5.cell (p := ⟨bx, 0, none⟩) (by dsimp only; omega)]; exact cw4_bx_0
    have cw5_bx_1 : w5.cell? ⟨bx, 1, none⟩ = some (.int .i64 x1) := by rw [bw5.cell (p := ⟨bx, 1, none⟩) (by dsimp only; omega)]; exact cw4_bx_1
    have cw5_bx_l : bx < w5.heap.size := by omega
    have cw5_bk_0 : w5.cell? ⟨bk, 0, none⟩ = some (.int .i64 m3) := by rw [bw5.cell (p := ⟨bk, 0, none⟩) (by dsimp only; omega)]; exact cw4_bk_0
    have cw5_bk_1 : w5.cell? ⟨bk, 1, none⟩ = some (.int .i64 (-m1)) := by rw [bw5.cell (p := ⟨bk, 1, none⟩) (by dsimp only; omega)]; exact cw4_bk_1
    have cw5_bk_2 : w5.cell? ⟨bk, 2, none⟩ = some (.int .i64 (-m2)) := by rw [bw5.cell (p := ⟨bk, 2, none⟩) (by dsimp only; omega)]; exact cw4_bk_2
    have cw5_bk_3 : w5.cell? ⟨bk, 3, none⟩ = some (.int .i64 m0) := by rw [bw5.cell (p := ⟨bk, 3, none⟩) (by dsimp only; omega)]; exact cw4_bk_3
    have cw5_bk_l : bk < w5.heap.size := by omega
    have cw5_bg_0 : w5.cell? ⟨bg, 0, none⟩ = some (.int .i64 f0) := by rw [bw5.cell (p := ⟨bg, 0, none⟩) (by dsimp only; omega)]; exact cw4_bg_0
    have cw5_bg_1 : w5.cell? ⟨bg, 1, none⟩ = some (.int .i64 f1) := by rw [bw5.cell (p := ⟨bg, 1, none⟩) (by dsimp only; omega)]; exact cw4_bg_1
    have cw5_bg_l : bg < w5.heap.size := by omega
    have lWw5 : W.heap.size ≤ w5.heap.size := by omega
    have hBw5 : Below W.heap.size W w5 := hBw4.trans (bw5.mono (by omega))
    clear zw5 bw5 cw4_bm_0 cw4_bm_1 cw4_bm_2 cw4_bm_3 cw4_bm_l cw4_bf_0 cw4_bf_1 cw4_bf_l cw4_bx_0 cw4_bx_1 cw4_bx_l cw4_bk_0 cw4_bk_1 cw4_bk_2 cw4_bk_3 cw4_bk_l cw4_bg_0 cw4_bg_1 cw4_bg_l lWw4 hBw4
    go_wp2_with fail
    refine (K5.out _ hBw5).mono ?_
    rintro e w6 ⟨rfl, bw6⟩
    have zw6 : w5.heap.size ≤ w6.heap.size := bw6.size
    have cw6_bm_0 : w6.cell? ⟨bm, 0, none⟩ = some (.int .i64 m0) := by rw [bw6.cell (p := ⟨bm, 0, none⟩) (by dsimp only; omega)]; exact cw5_bm_0
    have cw6_bm_1 : w6.cell? ⟨bm, 1, none⟩ = some (.int .i64 m1) := by rw [bw6.cell (p := ⟨bm, 1, none⟩) (by dsimp only; omega)]; exact cw5_bm_1
    have cw6_bm_2 : w6.cell? ⟨bm, 2, none⟩ = some (.int .i64 m2) := by rw [bw6.cell (p := ⟨bm, 2, none⟩) (by dsimp only; omega)]; exact cw5_bm_2
    have cw6_bm_3 : w6.cell? ⟨bm, 3, none⟩ = some (.int .i64 m3) := by rw [bw6.cell (p := ⟨bm, 3, none⟩) (by dsimp only; omega)]; exact cw5_bm_3
    have cw6_bm_l : bm < w6.heap.size := by omega
    have cw6_bf_0 : w6.cell? ⟨bf, 0, none⟩ = some (.int .i64 f0) := by rw [bw6.cell (p := ⟨bf, 0, none⟩) (by dsimp only; omega)]; exact cw5_bf_0
    have cw6_bf_1 : w6.cell? ⟨bf, 1, none⟩ = some (.int .i64 f1) := by rw [bw6.cell (p := ⟨bf, 1, none⟩) (by dsimp only; omega)]; exact cw5_bf_1
    have cw6_bf_l : bf < w6.heap.size := by omega
    have cw6_bx_0 : w6.cell? ⟨bx, 0, none⟩ = some (.int .i64 x0) := by rw [bw6.cell (p := ⟨bx, 0, none⟩) (by dsimp only; omega)]; exact cw5_bx_0
    have cw6_bx_1 : w6.cell? ⟨bx, 1, none⟩ = some (.int .i64 x1) := by rw [bw6.cell (p := ⟨bx, 1, none⟩) (by dsimp only; omega)]; exact cw5_bx_1
    have cw6_bx_l : bx < w6.heap.size := by omega
    have cw6_bk_0 : w6.cell? ⟨bk, 0, none⟩ = some (.int .i64 m3) := by rw [bw6.cell (p := ⟨bk, 0, none⟩) (by dsimp only; omega)]; exact cw5_bk_0
    have cw6_bk_1 : w6.cell? ⟨bk, 1, none⟩ = some (.int .i64 (-m1)) := by rw [bw6.cell (p := ⟨bk, 1, none⟩) (by dsimp only; omega)]; exact cw5_bk_1
    have cw6_bk_2 : w6.cell? ⟨bk, 2, none⟩ = some (.int .i64 (-m2)) := by rw [bw6.cell (p := ⟨bk, 2, none⟩) (by dsimp only; omega)]; exact cw5_bk_2
    have cw6_bk_3 : w6.cell? ⟨bk, 3, none⟩ = some (.int .i64 m0) := by rw [bw6.cell (p := ⟨bk, 3, none⟩) (by dsimp only; omega)]; exact cw5_bk_3
    have cw6_bk_l : bk < w6.heap.size := by omega
    have cw6_bg_0 : w6.cell? ⟨bg, 0, none⟩ = some (.int .i64 f0) := by rw [bw6.cell (p := ⟨bg, 0, none⟩) (by dsimp only; omega)]; exact cw5_bg_0
    have cw6_bg_1 : w6.cell? ⟨bg, 1, none⟩ = some (.int .i64 f1) := by rw [bw6.cell (p := ⟨bg, 1, none⟩) (by dsimp only; omega)]; exact cw5_bg_1
    have cw6_bg_l : bg < w6.heap.size := by omega
    have lWw6 : W.heap.size ≤ w6.heap.size := by omega
    have hBw6 : Below W.heap.size W w6 := hBw5.trans (bw6.mono (by omega))
    clear zw6 bw6 cw5_bm_0 cw5_bm_1 cw5_bm_2 cw5_bm_3 cw5_bm_l cw5_bf_0 cw5_bf_1 cw5_bf_l cw5_bx_0 cw5_bx_1 cw5_bx_l cw5_bk_0 cw5_bk_1 cw5_bk_2 cw5_bk_3 cw5_bk_l cw5_bg_0 cw5_bg_1 cw5_bg_l lWw5 hBw5
    go_wp2_with fail
    generalize hww7 : World.alloc _ _ = w7
    obtain ⟨br, hbr⟩ : ∃ b, w6.heap.size = b := ⟨_, rfl⟩
    have bbw7 : Below br w6 w7 := by subst hww7 hbr; exact (by repeat' (first | (with_reducible exact Below.refl _ _) | (with_reducible assumption) | (with_reducible refine below_drewN ?_ _) | (with_reducible refine Below.drew ?_) | (with_reducible refine Below.alloc ?_ ?_ _) | (with_reducible refine Below.setCell ?_ ?_ _) | (with_reducible refine Below.trans ?_ (Below.mono (by with_reducible assumption) ?_)) | go_size | (dsimp only; omega)))
    have cw7_br_0 : w7.cell? ⟨br, 0, none⟩ = some (.int .i64 x0) := by subst hww7 hbr; first | (go_cell; done) | (go_simp; done)
    have cw7_br_1 : w7.cell? ⟨br, 1, none⟩ = some (.int .i64 x1) := by subst hww7 hbr; first | (go_cell; done) | (go_simp; done)
    have cw7_br_l : br < w7.heap.size := by subst hww7 hbr; go_size
    have yw7 := bbw7.size
    (try rw [hbr])
    clear hww7
    have zw7 : w6.heap.size ≤ w7.heap.size := yw7
    have cw7_bm_0 : w7.cell? ⟨bm, 0, none⟩ = some (.int .i64 m0) := by rw [bbw7.cell (p := ⟨bm, 0, none⟩) (by dsimp only; omega)]; exact cw6_bm_0
    have cw7_bm_1 : w7.cell? ⟨bm, 1, none⟩ = some (.int .i64 m1) := by rw [bbw7.cell (p := ⟨bm, 1, none⟩) (by dsimp only; omega)]; exact cw6_bm_1
    have cw7_bm_2 : w7.cell? ⟨bm, 2, none⟩ = some (.int .i64 m2) := by rw [bbw7.cell (p := ⟨bm, 2, none⟩) (by dsimp only; omega)]; exact cw6_bm_2
    have cw7_bm_3 : w7.cell? ⟨bm, 3, none⟩ = some (.int .i64 m3) := by rw [bbw7.cell (p := ⟨bm, 3, none⟩) (by dsimp only; omega)]; exact cw6_bm_3
    have cw7_bm_l : bm < w7.heap.size := by omega
    have cw7_bf_0 : w7.cell? ⟨bf, 0, none⟩ = some (.int .i64 f0) := by rw [bbw7.cell (p := ⟨bf, 0, none⟩) (by dsimp only; omega)]; exact cw6_bf_0
    have cw7_bf_1 : w7.cell? ⟨bf, 1, none⟩ = some (.int .i64 f1) := by rw [bbw7.cell (p := ⟨bf, 1, none⟩) (by dsimp only; omega)]; exact cw6_bf_1
    have cw7_bf_l : bf < w7.heap.size := by omega
    have cw7_bx_0 : w7.cell? ⟨bx, 0, none⟩ = some (.int .i64 x0) := by rw [bbw7.cell (p := ⟨bx, 0, none⟩) (by dsimp only; omega)]; exact cw6_bx_0
    have cw7_bx_1 : w7.cell? ⟨bx, 1, none⟩ = some (.int .i64 x1) := by rw [bbw7.cell (p := ⟨bx, 1, none⟩) (by dsimp only; omega)]; exact cw6_bx_1
    have cw7_bx_l : bx < w7.heap.size := by omega
    have cw7_bk_0 : w7.cell? ⟨bk, 0, none⟩ = some (.int .i64 m3) := by rw [bbw7.cell (p := ⟨bk, 0, none⟩) (by dsimp only; omega)]; exact cw6_bk_0
    have cw7_bk_1 : w7.cell? ⟨bk, 1, none⟩ = some (.int .i64 (-m1)) := by rw [bbw7.cell (p := ⟨bk, 1, none⟩) (by dsimp only; omega)]; exact cw6_bk_1
    have cw7_bk_2 : w7.cell? ⟨bk, 2, none⟩ = some (.int .i64 (-m2)) := by rw [bbw7.cell (p := ⟨bk, 2, none⟩) (by dsimp only; omega)]; exact cw6_bk_2
    have cw7_bk_3 : w7.cell? ⟨bk, 3, none⟩ = some (.int .i64 m0) := by rw [bbw7.cell (p := ⟨bk, 3, none⟩) (by dsimp only; omega)]; exact cw6_bk_3
    have cw7_bk_l : bk < w7.heap.size := by omega
    have cw7_bg_0 : w7.cell? ⟨bg, 0, none⟩ = some (.int .i64 f0) := by rw [bbw7.cell (p := ⟨bg, 0, none⟩) (by dsimp only; omega)]; exact cw6_bg_0
    have cw7_bg_1 : w7.cell? ⟨bg, 1, none⟩ = some (.int .i64 f1) := by rw [bbw7.cell (p := ⟨bg, 1, none⟩) (by dsimp only; omega)]; exact cw6_bg_1
    have cw7_bg_l : bg < w7.heap.size := by omega
    have lWw7 : W.heap.size ≤ w7.heap.size := by omega
    have hBw7 : Below W.heap.size W w7 := hBw6.trans (bbw7.mono (by omega))
    clear zw7 bbw7 cw6_bm_0 cw6_bm_1 cw6_bm_2 cw6_bm_3 cw6_bm_l cw6_bf_0 cw6_bf_1 cw6_bf_l cw6_bx_0 cw6_bx_1 cw6_bx_l cw6_bk_0 cw6_bk_1 cw6_bk_2 cw6_bk_3 cw6_bk_l cw6_bg_0 cw6_bg_1 cw6_bg_l lWw6 hBw6
    clear yw7 hbr
    refine (IsFraction_c x0 x1 _).mono ?_
    rintro e w8 ⟨rfl, bw8⟩
    have zw8 : w7.heap.size ≤ w8.heap.size := bw8.size
    have cw8_bm_0 : w8.cell? ⟨bm, 0, none⟩ = some (.int .i64 m0) := by rw [bw8.cell (p := ⟨bm, 0, none⟩) (by dsimp only; omega)]; exact cw7_bm_0
    have cw8_bm_1 : w8.cell? ⟨bm, 1, none⟩ = some (.int .i64 m1) := by rw [bw8.cell (p := ⟨bm, 1, none⟩) (by dsimp only; omega)]; exact cw7_bm_1
    have cw8_bm_2 : w8.cell? ⟨bm, 2, none⟩ = some (.int .i64 m2) := by rw [bw8.cell (p := ⟨bm, 2, none⟩) (by dsimp only; omega)]; exact cw7_bm_2
    have cw8_bm_3 : w8.cell? ⟨bm, 3, none⟩ = some (.int .i64 m3) := by rw [bw8.cell (p := ⟨bm, 3, none⟩) (by dsimp only; omega)]; exact cw7_bm_3
    have cw8_bm_l : bm < w8.heap.size := by omega
    have cw8_bf_0 : w8.cell? ⟨bf, 0, none⟩ = some (.int .i64 f0) := by rw [bw8.cell (p := ⟨bf, 0, none⟩) (by dsimp only; omega)]; exact cw7_bf_0
    have cw8_bf_1 : w8.cell? ⟨bf, 1, none⟩ = some (.int .i64 f1) := by rw [bw8.cell (p := ⟨bf, 1, none⟩) (by dsimp only; omega)]; exact cw7_bf_1
    have cw8_bf_l : bf < w8.heap.size := by omega
    have cw8_bx_0 : w8.cell? ⟨bx, 0, none⟩ = some (.int .i64 x0) := by rw [bw8.cell (p := ⟨bx, 0, none⟩) (by dsimp only; omega)]; exact cw7_bx_0
    have cw8_bx_1 : w8.cell? ⟨bx, 1, none⟩ = some (.int .i64 x1) := by rw [bw8.cell (p := ⟨bx, 1, none⟩) (by dsimp only; omega)]; exact cw7_bx_1
    have cw8_bx_l : bx < w8.heap.size := by omega
    have cw8_bk_0 : w8.cell? ⟨bk, 0, none⟩ = some (.int .i64 m3) := by rw [bw8.cell (p := ⟨bk, 0, none⟩) (by dsimp only; omega)]; exact cw7_bk_0
    have cw8_bk_1 : w8.cell? ⟨bk, 1, none⟩ = some (.int .i64 (-m1)) := by rw [bw8.cell (p := ⟨bk, 1, none⟩) (by dsimp only; omega)]; exact cw7_bk_1
    have cw8_bk_2 : w8.cell? ⟨bk, 2, none⟩ = some (.int .i64 (-m2)) := by rw [bw8.cell (p := ⟨bk, 2, none⟩) (by dsimp only; omega)]; exact cw7_bk_2
    have cw8_bk_3 : w8.cell? ⟨bk, 3, none⟩ = some (.int .i64 m0) := by rw [bw8.cell (p := ⟨bk, 3, none⟩) (by dsimp only; omega)]; exact cw7_bk_3
    have cw8_bk_l : bk < w8.heap.size := by omega
    have cw8_bg_0 : w8.cell? ⟨bg, 0, none⟩ = some (.int .i64 f0) := by rw [bw8.cell (p := ⟨bg, 0, none⟩) (by dsimp only; omega)]; exact cw7_bg_0
    have cw8_bg_1 : w8.cell? ⟨bg, 1, none⟩ = some (.int .i64 f1) := by rw [bw8.cell (p := ⟨bg, 1, none⟩) (by dsimp only; omega)]; exact cw7_bg_1
    have cw8_bg_l : bg < w8.heap.size := by omega
    have cw8_br_0 : w8.cell? ⟨br, 0, none⟩ = some (.int .i64 x0) := by rw [bw8.cell (p := ⟨br, 0, none⟩) (by dsimp only; omega)]; exact cw7_br_0
    have cw8_br_1 : w8.cell? ⟨br, 1, none⟩ = some (.int .i64 x1) := by rw [bw8.cell (p := ⟨br, 1, none⟩) (by dsimp only; omega)]; exact cw7_br_1
    have cw8_br_l : br < w8.heap.size := by omega
    have lWw8 : W.heap.size ≤ w8.heap.size := by omega
    have hBw8 : Below W.heap.size W w8 := hBw7.trans (bw8.mono (by omega))
    clear zw8 bw8 cw7_bm_0 cw7_bm_1 cw7_bm_2 cw7_bm_3 cw7_bm_l cw7_bf_0 cw7_bf_1 cw7_bf_l cw7_bx_0 cw7_bx_1 cw7_bx_l cw7_bk_0 cw7_bk_1 cw7_bk_2 cw7_bk_3 cw7_bk_l cw7_bg_0 cw7_bg_1 cw7_bg_l cw7_br_0 cw7_br_1 cw7_br_l lWw7 hBw7
    rw [HXF.out]
    go_wp2_with fail
    exact (by repeat' (first | (with_reducible exact Below.refl _ _) | (with_reducible assumption) | (with_reducible refine below_drewN ?_ _) | (with_reducible refine Below.drew ?_) | (with_reducible refine Below.alloc ?_ ?_ _) | (with_reducible refine Below.setCell ?_ ?_ _) | (with_reducible refine Below.trans ?_ (Below.mono (by with_reducible assumption) ?_)) | go_size | (dsimp only; omega)))
  · have h1' : (x2 == 0) = false := by simpa using h1
    go_wp2_with fail
    exact (by repeat' (first | (with_reducible exact Below.refl _ _) | (with_reducible assumption) | (with_reducible refine below_drewN ?_ _) | (with_reducible refine Below.drew ?_) | (with_reducible refine Below.alloc ?_ ?_ _) | (with_reducible refine Below.setCell ?_ ?_ _) | (with_reducible refine Below.trans ?_ (Below.mono (by with_reducible assumption) ?_)) | go_size | (dsimp only; omega)))
set_option maxRecDepth 1000000 in
set_option maxHeartbeats 8000000 in
theorem fsec2_c {KK : Act → World → Prop} {Q0 : Exit → Act → World → Prop} (W w : World) (hBw : Below W.heap.size W w) (lWw : W.heap.size ≤ w.heap.size) (bn bx : Nat) (n0 n1 n2 n3 x0 x1 x2 : Int) (HX : Hid (x2 = 0 → Hid (RetF 7 #[.agg #[.int .i64 n0, .int .i64 n1, .int .i64 n2, .int .i64 n3], .agg #[.int .i64 x0, .int .i64 x1]] (.tuple #[.agg #[.int .i64 x0, .int .i64 x1], .int .i64 0])) ∧ Hid (RetF 17 #[.agg #[.int .i64 n0, .int .i64 n1, .int .i64 n2, .int .i64 n3]] (.tuple #[.int .i64 2, .int .i64 0])))) (cw_bn_0 : w.cell? ⟨bn, 0, none⟩ = some (.int .i64 n0)) (cw_bn_1 : w.cell? ⟨bn, 1, none⟩ = some (.int .i64 n1)) (cw_bn_2 : w.cell? ⟨bn, 2, none⟩ = some (.int .i64 n2)) (cw_bn_3 : w.cell? ⟨bn, 3, none⟩ = some (.int .i64 n3)) (cw_bx_0 : w.cell? ⟨bx, 0, none⟩ = some (.int .i64 x0)) (cw_bx_1 : w.cell? ⟨bx, 1, none⟩ = some (.int .i64 x1)) (cw_bn_l : bn < w.heap.size) (cw_bx_l : bx < w.heap.size) (L0 L1 L2 L3 L4 L5 L6 L7 L8 L9 L10 L11 L12 L13 L14 L15 L16 L20 L21 L22 L23 L24 L25 L26 L27 L28 L29 L30 L31 L32 L33 L34 L35 L36 L37 L38 L39 L40 L41 L42 L43 L44 L45 L46 L47 L48 L49 L50 L51 L52 L53 L54 L55 L56 L57 L58 L59 L60 L61 L62 L63 L64 L65 L66 L67 L68 L69 L70 L71 L72 L73 L74 L75 L76 L77 L78 L79 L80 L81 L82 L83 L84 L85 L86 L87 L88 L89 L90 L91 L92 L93 L94 L95 L96 L97 L98 L99 L100 L101 L102 L103 L104 L105 L106 L107 L108 L109 L110 L111 L112 L113 L114 L115 L116 L117 L118 L119 L120 L121 L122 L123 L124 L125 L126 L127 L128 L129 L130 L131 L132 L133 L134 L135 L136 L137 L138 L139 L140 L141 L142 L143 L144 L145 L146 L147 L148 L149 L150 L151 L152 L153 L154 L155 L156 L157 L158 L159 L160 L161 L162 L163 L164 L165 L166 L167 L169 L170 L171 L172 L173 L174 L175 L176 L177 L178 L179 L180 L181 L182 L183 L184 L185 L186 L187 L188 L189 L190 L191 L192 L193 L194 L195 L196 L197 L198 L199 L200 L201 L202 L203 L204 L205 L206 L207 L208 L209 L210 L211 L212 L213 L214 L215 L216 L217 L218 L219 L220 L221 L222 L223 L224 L225 L226 L227 L228 L229 L230 L231 L232 L233 L234 L235 L236 L237 L238 L239 L240 L241 L242 L243 L244 L245 L246 L247 L248 L249 L250 L251 L252 L253 L254 L255 L256 L257 L258 L259 L260 L261 L262 L263 L264 L265 L266 L267 L268 L269 L270 L271 L272 L273 L274 L275 L276 L277 L278 L279 L280 L281 L282 L283 L284 L285 L286 L287 L288 L289 L290 L291 L292 L293 L294 L295 L296 L297 L298 L299 L300 L301 L302 L303 L304 L305 L306 L307 L308 L309 L310 L311 L312 L313 L314 L315 L316 L317 L318 L319 L320 L321 L322 L323 L324 L325 L326 L327 L328 L329 L330 L331 L332 L333 L334 L335 L336 L337 L338 L339 L340 L341 L342 L343 L344 L345 L346 L347 L348 L349 L350 L351 L352 L353 L354 L355 L356 L357 L358 L359 L360 L361 L362 L363 L364 L365 L366 L367 L368 L369 L370 L371 L372 L373 L374 L375 L376 L377 L378 L379 L380 L381 L382 L383 L384 L385 L386 L387 L388 L389 L390 L391 L392 : Value)
    (hfin : ∀ (v22 v23 v24 v25 v169 v170 v171 v172 v173 v174 v175 v176 v177 v178 v179 v180 v181 v182 v183 v184 v185 v186 v187 v188 v189 v190 v191 v192 v193 v194 : Value) (wx : World), (Below W.heap.size W wx) → KK ⟨#[L0, L1, L2, L3, L4, L5, L6, L7, L8, L9, L10, L11, L12, L13, L14, L15, L16, .pointer (some ⟨bn, 0, none⟩), .pointer (some ⟨bx, 0, none⟩), .int .i64 x2, L20, L21, v22, v23, v24, v25, L26, L27, L28, L29, L30, L31, L32, L33, L34, L35, L36, L37, L38, L39, L40, L41, L42, L43, L44, L45, L46, L47, L48, L49, L50, L51, L52, L53, L54, L55, L56, L57, L58, L59, L60, L61, L62, L63, L64, L65, L66, L67, L68, L69, L70, L71, L72, L73, L74, L75, L76, L77, L78, L79, L80, L81, L82, L83, L84, L85, L86, L87, L88, L89, L90, L91, L92, L93, L94, L95, L96, L97, L98, L99, L100, L101, L102, L103, L104, L105, L106, L107, L108, L109, L110, L111, L112, L113, L114, L115, L116, L117, L118, L119, L120, L121, L122, L123, L124, L125, L126, L127, L128, L129, L130, L131, L132, L133, L134, L135, L136, L137, L138, L139, L140, L141, L142, L143, L144, L145, L146, L147, L148, L149, L150, L151, L152, L153, L154, L155, L156, L157, L158, L159, L160, L161, L162, L163, L164, L165, L166, L167, .bool (x2 == 0), v169, v170, v171, v172, v173, v174, v175, v176, v177, v178, v179, v180, v181, v182, v183, v184, v185, v186, v187, v188, v189, v190, v191, v192, v193, v194, L195, L196, L197, L198, L199, L200, L201, L202, L203, L204, L205, L206, L207, L208, L209, L210, L211, L212, L213, L214, L215, L216, L217, L218, L219, L220, L221, L222, L223, L224, L225, L226, L227, L228, L229, L230, L231, L232, L233, L234, L235, L236, L237, L238, L239, L240, L241, L242, L243, L244, L245, L246, L247, L248, L249, L250, L251, L252, L253, L254, L255, L256, L257, L258, L259, L260, L261, L262, L263, L264, L265, L266, L267, L268, L269, L270, L271, L272, L273, L274, L275, L276, L277, L278, L279, L280, L281, L282, L283, L284, L285, L286, L287, L288, L289, L290, L291, L292, L293, L294, L295, L296, L297, L298, L299, L300, L301, L302, L303, L304, L305, L306, L307, L308, L309, L310, L311, L312, L313, L314, L315, L316, L317, L318, L319, L320, L321, L322, L323, L324, L325, L326, L327, L328, L329, L330, L331, L332, L333, L334, L335, L336, L337, L338, L339, L340, L341, L342, L343, L344, L345, L346, L347, L348, L349, L350, L351, L352, L353, L354, L355, L356, L357, L358, L359, L360, L361, L362, L363, L364, L365, L366, L367, L368, L369, L370, L371, L372, L373, L374, L375, L376, L377, L378, L379, L380, L381, L382, L383, L384, L385, L386, L387, L388, L389, L390, L391, L392], []⟩ wx) :
    Code.wp Tryz.prog ((Tryz.f3.body.bind (condOf 168)).getD .skip) (Exit.then KK Q0) ⟨#[L0, L1, L2, L3, L4, L5, L6, L7, L8, L9, L10, L11, L12, L13, L14, L15, L16, .pointer (some ⟨bn, 0, none⟩), .pointer (some ⟨bx, 0, none⟩), .int .i64 x2, L20, L21, L22, L23, L24, L25, L26, L27, L28, L29, L30, L31, L32, L33, L34, L35, L36, L37, L38, L39, L40, L41, L42, L43, L44, L45, L46, L47, L48, L49, L50, L51, L52, L53, L54, L55, L56, L57, L58, L59, L60, L61, L62, L63, L64, L65, L66, L67, L68, L69, L70, L71, L72, L73, L74, L75, L76, L77, L78, L79, L80, L81, L82, L83, L84, L85, L86, L87, L88, L89, L90, L91, L92, L93, L94, L95, L96, L97, L98, L99, L100, L101, L102, L103, L104, L105, L106, L107, L108, L109, L110, L111, L112, L113, L114, L115, L116, L117, L118, L119, L120, L121, L122, L123, L124, L125, L126, L127, L128, L129, L130, L131, L132, L133, L134, L135, L136, L137, L138, L139, L140, L141, L142, L143, L144, L145, L146, L147, L148, L149, L150, L151, L152, L153, L154, L155, L156, L157, L158, L159, L160, L161, L162, L163, L164, L165, L166, L167, .bool (x2 == 0), L169, L170, L171, L172, L173, L174, L175, L176, L177, L178, L179, L180, L181, L182, L183, L184, L185, L186, L187, L188, L189, L190, L191, L192, L193, L194, L195, L196, L197, L198, L199, L200, L201, L202, L203, L204, L205, L206, L207, L208, L209, L210, L211, L212, L213, L214, L215, L216, L217, L218, L219, L220, L221, L222, L223, L224, L225, L226, L227, L228, L229, L230, L231, L232, L233, L234, L235, L236, L237, L238, L239, L240, L241, L242, L243, L244, L245, L246, L247, L248, L249, L250, L251, L252, L253, L254, L255, L256, L257, L258, L259, L260, L261, L262, L263, L264, L265, L266, L267, L268, L269, L270, L271, L272, L273, L274, L275, L276, L277, L278, L279, L280, L281, L282, L283, L284, L285, L286, L287, L288, L289, L290, L291, L292, L293, L294, L295, L296, L297, L298, L299, L300, L301, L302, L303, L304, L305, L306, L307, L308, L309, L310, L311, L312, L313, L314, L315, L316, L317, L318, L319, L320, L321, L322, L323, L324, L325, L326, L327, L328, L329, L330, L331, L332, L333, L334, L335, L336, L337, L338, L339, L340, L341, L342, L343, L344, L345, L346, L347, L348, L349, L350, L351, L352, L353, L354, L355, L356, L357, L358, L359, L360, L361, L362, L363, L364, L365, L366, L367, L368, L369, L370, L371, L372, L373, L374, L375, L376, L377, L378, L379, L380, L381, L382, L383, L384, L385, L386, L387, L388, L389, L390, L391, L392], []⟩ w := by
  conv => arg 2; whnf
  by_cases h1 : x2 = 0
  · obtain ⟨K3, K4⟩ := HX.out h1
    subst h1
    go_wp2_with fail
    refine (K3.out.get _).mono ?_
    rintro e w1 ⟨rfl, bw1⟩
    have zw1 : w.heap.size ≤ w1.heap.size := bw1.size
    have cw1_bn_0 : w1.cell? ⟨bn, 0, none⟩ = some (.int .i64 n0) := by rw [bw1.cell (p := ⟨bn, 0, none⟩) (by dsimp only; omega)]; exact cw_bn_0
    have cw1_bn_1 : w1.cell? ⟨bn, 1, none⟩ = some (.int .i64 n1) := by rw [bw1.cell (p := ⟨bn, 1, none⟩) (by dsimp only; omega)]; exact cw_bn_1
    have cw1_bn_2 : w1.cell? ⟨bn, 2, none⟩ = some (.int .i64 n2) := by rw [bw1.cell (p := ⟨bn, 2, none⟩) (by dsimp only; omega)]; exact cw_bn_2
    have cw1_bn_3 : w1.cell? ⟨bn, 3, none⟩ = some (.int .i64 n3) := by rw [bw1.cell (p := ⟨bn, 3, none⟩) (by dsimp only; omega)]; exact cw_bn_3
    have cw1_bn_l : bn < w1.heap.size := by omega
    have cw1_bx_0 : w1.cell? ⟨bx, 0, none⟩ = some (.int .i64 x0) := by rw [bw1.cell (p := ⟨bx, 0, none⟩) (by dsimp only; omega)]; exact cw_bx_0
    have cw1_bx_1 : w1.cell? ⟨bx, 1, none⟩ = some (.int .i64 x1) := by rw [bw1.cell (p := ⟨bx, 1, none⟩) (by dsimp only; omega)]; exact cw_bx_1
    have cw1_bx_l : bx < w1.heap.size := by omega
    have lWw1 : W.heap.size ≤ w1.heap.size := by omega
    have hBw1 : Below W.heap.size W w1 := hBw.trans (bw1.mono (by omega))
    clear zw1 bw1 cw_bn_0 cw_bn_1 cw_bn_2 cw_bn_3 cw_bn_l cw_bx_0 cw_bx_1 cw_bx_l lWw hBw
    go_wp2_with fail
    generalize hww2 : World.alloc _ _ = w2
    obtain ⟨bz, hbz⟩ : ∃ b, w1.heap.size = b := ⟨_, rfl⟩
    have bbw2 : Below bz w1 w2 := by subst hww2 hbz; exact (by repeat' (first | (with_reducible exact Below.refl _ _) | (with_reducible assumption) | (with_reducible refine below_drewN ?_ _) | (with_reducible refine Below.drew ?_) | (with_reducible refine Below.alloc ?_ ?_ _) | (with_reducible refine Below.setCell ?_ ?_ _) | (with_reducible refine Below.trans ?_ (Below.mono (by with_reducible assumption) ?_)) | go_size | (dsimp only; omega)))
    have cw2_bz_0 : w2.cell? ⟨bz, 0, none⟩ = some (.int .i64 x0) := by subst hww2 hbz; first | (go_cell; done) | (go_simp; done)
    have cw2_bz_1 : w2.cell? ⟨bz, 1, none⟩ = some (.int .i64 x1) := by subst hww2 hbz; first | (go_cell; done) | (go_simp; done)
    have cw2_bz_l : bz < w2.heap.size := by subst hww2 hbz; go_size
    have yw2 := bbw2.size
    (try rw [hbz])
    clear hww2
    have zw2 : w1.heap.size ≤ w2.heap.size := yw2
    have cw2_bn_0 : w2.cell? ⟨bn, 0, none⟩ = some (.int .i64 n0) := by rw [bbw2.cell (p := ⟨bn, 0, none⟩) (by dsimp only; omega)]; exact cw1_bn_0
    have cw2_bn_1 : w2.cell? ⟨bn, 1, none⟩ = some (.int .i64 n1) := by rw [bbw2.cell (p := ⟨bn, 1, none⟩) (by dsimp only; omega)]; exact cw1_bn_1
    have cw2_bn_2 : w2.cell? ⟨bn, 2, none⟩ = some (.int .i64 n2) := by rw [bbw2.cell (p := ⟨bn, 2, none⟩) (by dsimp only; omega)]; exact cw1_bn_2
    have cw2_bn_3 : w2.cell? ⟨bn, 3, none⟩ = some (.int .i64 n3) := by rw [bbw2.cell (p := ⟨bn, 3, none⟩) (by dsimp only; omega)]; exact cw1_bn_3
    have cw2_bn_l : bn < w2.heap.size := by omega
    have cw2_bx_0 : w2.cell? ⟨bx, 0, none⟩ = some (.int .i64 x0) := by rw [bbw2.cell (p := ⟨bx, 0, none⟩) (by dsimp only; omega)]; exact cw1_bx_0
    have cw2_bx_1 : w2.cell? ⟨bx, 1, none⟩ = some (.int .i64 x1) := by rw [bbw2.cell (p := ⟨bx, 1, none⟩) (by dsimp only; omega)]; exact cw1_bx_1
    have cw2_bx_l : bx < w2.heap.size := by omega
    have lWw2 : W.heap.size ≤ w2.heap.size := by omega
    have hBw2 : Below W.heap.size W w2 := hBw1.trans (bbw2.mono (by omega))
    clear zw2 bbw2 cw1_bn_0 cw1_bn_1 cw1_bn_2 cw1_bn_3 cw1_bn_l cw1_bx_0 cw1_bx_1 cw1_bx_l lWw1 hBw1
    clear yw2 hbz
    refine (K4.out.get _).mono ?_
    rintro e w3 ⟨rfl, bw3⟩
    have zw3 : w2.heap.size ≤ w3.heap.size := bw3.size
    have cw3_bn_0 : w3.cell? ⟨bn, 0, none⟩ = some (.int .i64 n0) := by rw [bw3.cell (p := ⟨bn, 0, none⟩) (by dsimp only; omega)]; exact cw2_bn_0
    have cw3_bn_1 : w3.cell? ⟨bn, 1, none⟩ = some (.int .i64 n1) := by rw [bw3.cell (p := ⟨bn, 1, none⟩) (by dsimp only; omega)]; exact cw2_bn_1
    have cw3_bn_2 : w3.cell? ⟨bn, 2, none⟩ = some (.int .i64 n2) := by rw [bw3.cell (p := ⟨bn, 2, none⟩) (by dsimp only; omega)]; exact cw2_bn_2
    have cw3_bn_3 : w3.cell? ⟨bn, 3, none⟩ = some (.int .i64 n3) := by rw [bw3.cell (p := ⟨bn, 3, none⟩) (by dsimp only; omega)]; exact cw2_bn_3
    have cw3_bn_l : bn < w3.heap.size := by omega
    have cw3_bx_0 : w3.cell? ⟨bx, 0, none⟩ = some (.int .i64 x0) := by rw [bw3.cell (p := ⟨bx, 0, none⟩) (by dsimp only; omega)]; exact cw2_bx_0
    have cw3_bx_1 : w3.cell? ⟨bx, 1, none⟩ = some (.int .i64 x1) := by rw [bw3.cell (p := ⟨bx, 1, none⟩) (by dsimp only; omega)]; exact cw2_bx_1
    have cw3_bx_l : bx < w3.heap.size := by omega
    have cw3_bz_0 : w3.cell? ⟨bz, 0, none⟩ = some (.int .i64 x0) := by rw [bw3.cell (p := ⟨bz, 0, none⟩) (by dsimp only; omega)]; exact cw2_bz_0
    have cw3_bz_1 : w3.cell? ⟨bz, 1, none⟩ = some (.int .i64 x1) := by rw [bw3.cell (p := ⟨bz, 1, none⟩) (by dsimp only; omega)]; exact cw2_bz_1
    have cw3_bz_l : bz < w3.heap.size := by omega
    have lWw3 : W.heap.size ≤ w3.heap.size := by omega
    have hBw3 : Below W.heap.size W w3 := hBw2.trans (bw3.mono (by omega))
    clear zw3 bw3 cw2_bn_0 cw2_bn_1 cw2_bn_2 cw2_bn_3 cw2_bn_l cw2_bx_0 cw2_bx_1 cw2_bx_l cw2_bz_0 cw2_bz_1 cw2_bz_l lWw2 hBw2
    go_wp2_with fail
    exact (by repeat' (first | (with_reducible exact Below.refl _ _) | (with_reducible assumption) | (with_reducible refine below_drewN ?_ _) | (with_reducible refine Below.drew ?_) | (with_reducible refine Below.alloc ?_ ?_ _) | (with_reducible refine Below.setCell ?_ ?_ _) | (with_reducible refine Below.trans ?_ (Below.mono (by with_reducible assumption) ?_)) | go_size | (dsimp only; omega)))
  · have h1' : (x2 == 0) = false := by simpa using h1
    go_wp2_with fail
    exact (by repeat' (first | (with_reducible exact Below.refl _ _) | (with_reducible assumption) | (with_reducible refine below_drewN ?_ _) | (with_reducible refine Below.drew ?_) | (with_reducible refine Below.alloc ?_ ?_ _) | (with_reducible refine Below.setCell ?_ ?_ _) | (with_reducible refine Below.trans ?_ (Below.mono (by with_reducible assumption) ?_)) | go_size | (dsimp only; omega)))
set_option maxRecDepth 1000000 in
set_option maxHeartbeats 8000000 in
theorem freg5_c {KK : Act → World → Prop} {Q0 : Exit → Act → World → Prop} (W w : World) (hBw : Below W.heap.size W w) (lWw : W.heap.size ≤ w.heap.size) (bg bh : Nat) (g0 g1 h0 h1 y c : Int) (hy0 : -1 ≤ y) (hy1 : y ≤ 1) (HX : Hid (c = 0 → (-y = 0 ↔ (g0 = h0 ∧ g1 = h1)))) (cw_bg_0 : w.cell? ⟨bg, 0, none⟩ = some (.int .i64 g0)) (cw_bg_1 : w.cell? ⟨bg, 1, none⟩ = some (.int .i64 g1)) (cw_bh_0 : w.cell? ⟨bh, 0, none⟩ = some (.int .i64 h0)) (cw_bh_1 : w.cell? ⟨bh, 1, none⟩ = some (.int .i64 h1)) (cw_bg_l : bg < w.heap.size) (cw_bh_l : bh < w.heap.size) (L0 L1 L2 L3 L4 L5 L6 L7 L8 L9 L10 L11 L12 L13 L14 L15 L16 L17 L18 L19 L20 L21 L22 L23 L24 L25 L34 L35 L36 L37 L38 L39 L40 L41 L42 L43 L44 L45 L46 L47 L48 L49 L50 L51 L52 L53 L54 L55 L56 L57 L58 L59 L60 L61 L62 L63 L64 L65 L66 L67 L68 L69 L70 L71 L72 L73 L74 L75 L76 L77 L78 L79 L80 L81 L82 L83 L84 L85 L86 L87 L88 L89 L90 L91 L92 L93 L94 L95 L96 L97 L98 L99 L100 L101 L102 L103 L104 L105 L106 L107 L108 L109 L110 L111 L112 L113 L114 L115 L116 L117 L118 L119 L120 L121 L122 L123 L124 L125 L126 L127 L128 L129 L130 L131 L132 L133 L134 L135 L136 L137 L138 L139 L140 L141 L142 L143 L144 L145 L146 L147 L148 L149 L150 L151 L152 L153 L154 L155 L156 L157 L158 L159 L160 L161 L162 L163 L164 L165 L166 L167 L168 L169 L170 L171 L172 L173 L174 L175 L176 L177 L178 L179 L180 L181 L182 L183 L184 L185 L186 L187 L188 L189 L190 L191 L192 L193 L194 L195 L196 L197 L198 L199 L200 L201 L202 L203 L204 L205 L206 L207 L208 L209 L210 L211 L212 L213 L214 L215 L216 L217 L218 L219 L220 L221 L222 L223 L224 L225 L226 L227 L228 L229 L230 L231 L232 L233 L234 L235 L236 L237 L238 L239 L240 L241 L242 L243 L244 L245 L246 L247 L248 L249 L250 L251 L252 L253 L254 L255 L256 L257 L258 L259 L260 L261 L262 L263 L264 L265 L266 L267 L268 L269 L270 L271 L272 L273 L274 L275 L276 L277 L278 L279 L280 L281 L282 L283 L284 L285 L286 L287 L288 L289 L290 L291 L292 L293 L294 L295 L296 L297 L298 L299 L300 L301 L302 L303 L304 L305 L306 L307 L308 L309 L310 L311 L312 L313 L314 L315 L316 L317 L318 L319 L320 L321 L322 L323 L324 L325 L326 L327 L328 L329 L330 L331 L332 L333 L334 L335 L336 L337 L338 L339 L340 L341 L342 L343 L344 L345 L346 L347 L348 L349 L350 L351 L352 L353 L354 L355 L356 L357 L358 L359 L360 L361 L362 L363 L364 L365 L366 L367 L368 L369 L370 L371 L372 L373 L374 L375 L376 L377 L378 L379 L380 L381 L382 L383 L384 L385 L386 L387 L388 L389 L390 L391 L392 : Value)
    (hfin : ∀ (v218 v219 v220 v221 v222 v223 v224 v225 v226 v227 v228 v229 v230 v231 v232 v233 v234 v235 v236 v237 v238 v239 v240 v241 v242 v243 v244 v245 v246 v247 : Value) (wx : World), (Below w.heap.size w wx) → KK ⟨#[L0, L1, L2, L3, L4, L5, L6, L7, L8, L9, L10, L11, L12, L13, L14, L15, L16, L17, L18, L19, L20, L21, L22, L23, L24, L25, .pointer (some ⟨bg, 0, none⟩), .pointer (some ⟨bh, 0, none⟩), .int .i64 (-y), .int .i64 c, .int .i64 (-y), .int .i64 c, .int .i64 y, .int .i64 c, L34, L35, L36, L37, L38, L39, L40, L41, L42, L43, L44, L45, L46, L47, L48, L49, L50, L51, L52, L53, L54, L55, L56, L57, L58, L59, L60, L61, L62, L63, L64, L65, L66, L67, L68, L69, L70, L71, L72, L73, L74, L75, L76, L77, L78, L79, L80, L81, L82, L83, L84, L85, L86, L87, L88, L89, L90, L91, L92, L93, L94, L95, L96, L97, L98, L99, L100, L101, L102, L103, L104, L105, L106, L107, L108, L109, L110, L111, L112, L113, L114, L115, L116, L117, L118, L119, L120, L121, L122, L123, L124, L125, L126, L127, L128, L129, L130, L131, L132, L133, L134, L135, L136, L137, L138, L139, L140, L141, L142, L143, L144, L145, L146, L147, L148, L149, L150, L151, L152, L153, L154, L155, L156, L157, L158, L159, L160, L161, L162, L163, L164, L165, L166, L167, L168, L169, L170, L171, L172, L173, L174, L175, L176, L177, L178, L179, L180, L181, L182, L183, L184, L185, L186, L187, L188, L189, L190, L191, L192, L193, L194, L195, L196, L197, L198, L199, L200, L201, L202, L203, L204, L205, L206, L207, L208, L209, L210, L211, L212, L213, L214, L215, L216, L217, v218, v219, v220, v221, v222, v223, v224, v225, v226, v227, v228, v229, v230, v231, v232, v233, v234, v235, v236, v237, v238, v239, v240, v241, v242, v243, v244, v245, v246, v247, .bool false, L249, L250, L251, L252, L253, L254, L255, L256, L257, L258, L259, L260, L261, L262, L263, L264, L265, L266, L267, L268, L269, L270, L271, L272, L273, L274, L275, L276, L277, L278, L279, L280, L281, L282, L283, L284, L285, L286, L287, L288, L289, L290, L291, L292, L293, L294, L295, L296, L297, L298, L299, L300, L301, L302, L303, L304, L305, L306, L307, L308, L309, L310, L311, L312, L313, L314, L315, L316, L317, L318, L319, L320, L321, L322, L323, L324, L325, L326, L327, L328, L329, L330, L331, L332, L333, L334, L335, L336, L337, L338, L339, L340, L341, L342, L343, L344, L345, L346, L347, L348, L349, L350, L351, L352, L353, L354, L355, L356, L357, L358, L359, L360, L361, L362, L363, L364, L365, L366, L367, L368, L369, L370, L371, L372, L373, L374, L375, L376, L377, L378, L379, L380, L381, L382, L383, L384, L385, L386, L387, L388, L389, L390, L391, L392], []⟩ wx) :
    Code.wp Tryz.prog ((Tryz.f3.body.bind (regionOf 29)).getD .skip) (Exit.then KK Q0) ⟨#[L0, L1, L2, L3, L4, L5, L6, L7, L8, L9, L10, L11, L12, L13, L14, L15, L16, L17, L18, L19, L20, L21, L22, L23, L24, L25, .pointer (some ⟨bg, 0, none⟩), .pointer (some ⟨bh, 0, none⟩), .int .i64 (-y), .int .i64 c, .int .i64 (-y), .int .i64 c, .int .i64 y, .int .i64 c, L34, L35, L36, L37, L38, L39, L40, L41, L42, L43, L44, L45, L46, L47, L48, L49, L50, L51, L52, L53, L54, L55, L56, L57, L58, L59, L60, L61, L62, L63, L64, L65, L66, L67, L68, L69, L70, L71, L72, L73, L74, L75, L76, L77, L78, L79, L80, L81, L82, L83, L84, L85, L86, L87, L88, L89, L90, L91, L92, L93, L94, L95, L96, L97, L98, L99, L100, L101, L102, L103, L104, L105, L106, L107, L108, L109, L110, L111, L112, L113, L114, L115, L116, L117, L118, L119, L120, L121, L122, L123, L124, L125, L126, L127, L128, L129, L130, L131, L132, L133, L134, L135, L136, L137, L138, L139, L140, L141, L142, L143, L144, L145, L146, L147, L148, L149, L150, L151, L152, L153, L154, L155, L156, L157, L158, L159, L160, L161, L162, L163, L164, L165, L166, L167, L168, L169, L170, L171, L172, L173, L174, L175, L176, L177, L178, L179, L180, L181, L182, L183, L184, L185, L186, L187, L188, L189, L190, L191, L192, L193, L194, L195, L196, L197, L198, L199, L200, L201, L202, L203, L204, L205, L206, L207, L208, L209, L210, L211, L212, L213, L214, L215, L216, L217, L218, L219, L220, L221, L222, L223, L224, L225, L226, L227, L228, L229, L230, L231, L232, L233, L234, L235, L236, L237, L238, L239, L240, L241, L242, L243, L244, L245, L246, L247, L248, L249, L250, L251, L252, L253, L254, L255, L256, L257, L258, L259, L260, L261, L262, L263, L264, L265, L266, L267, L268, L269, L270, L271, L272, L273, L274, L275, L276, L277, L278, L279, L280, L281, L282, L283, L284, L285, L286, L287, L288, L289, L290, L291, L292, L293, L294, L295, L296, L297, L298, L299, L300, L301, L302, L303, L304, L305, L306, L307, L308, L309, L310, L311, L312, L313, L314, L315, L316, L317, L318, L319, L320, L321, L322, L323, L324, L325, L326, L327, L328, L329, L330, L331, L332, L333, L334, L335, L336, L337, L338, L339, L340, L341, L342, L343, L344, L345, L346, L347, L348, L349, L350, L351, L352, L353, L354, L355, L356, L357, L358, L359, L360, L361, L362, L363, L364, L365, L366, L367, L368, L369, L370, L371, L372, L373, L374, L375, L376, L377, L378, L379, L380, L381, L382, L383, L384, L385, L386, L387, L388, L389, L390, L391, L392], []⟩ w := by
  conv => arg 2; whnf
  by_cases h1 : c = 0
  · subst h1
    by_cases h2 : g0 = h0 ∧ g1 = h1
    · obtain ⟨e0, e1⟩ := h2
      have hy : y = 0 := by have := (HX.out rfl).mpr ⟨e0, e1⟩; omega
      subst hy e0 e1
      go_wp2_with fail
      exact (by repeat' (first | (with_reducible exact Below.refl _ _) | (with_reducible assumption) | (with_reducible refine below_drewN ?_ _) | (with_reducible refine Below.drew ?_) | (with_reducible refine Below.alloc ?_ ?_ _) | (with_reducible refine Below.setCell ?_ ?_ _) | (with_reducible refine Below.trans ?_ (Below.mono (by with_reducible assumption) ?_)) | go_size | (dsimp only; omega)))
    · have hy : ¬ y = 0 := fun h => h2 ((HX.out rfl).mp (by omega))
      have hy' : (-y == 0) = false := by simp; omega
      have hy2 : (y == 0) = false := by simpa using hy
      have hgh : (g0 == h0 && g1 == h1) = false := by
        cases hb : (g0 == h0 && g1 == h1) with
        | false => rfl
        | true => simp at hb; exact absurd hb h2
      go_wp2_with fail
      exact (by repeat' (first | (with_reducible exact Below.refl _ _) | (with_reducible assumption) | (with_reducible refine below_drewN ?_ _) | (with_reducible refine Below.drew ?_) | (with_reducible refine Below.alloc ?_ ?_ _) | (with_reducible refine Below.setCell ?_ ?_ _) | (with_reducible refine Below.trans ?_ (Below.mono (by with_reducible assumption) ?_)) | go_size | (dsimp only; omega)))
  · have h1' : (c == 0) = false := by simpa using h1
    go_wp2_with fail
    exact (by repeat' (first | (with_reducible exact Below.refl _ _) | (with_reducible assumption) | (with_reducible refine below_drewN ?_ _) | (with_reducible refine Below.drew ?_) | (with_reducible refine Below.alloc ?_ ?_ _) | (with_reducible refine Below.setCell ?_ ?_ _) | (with_reducible refine Below.trans ?_ (Below.mono (by with_reducible assumption) ?_)) | go_size | (dsimp only; omega)))
set_option maxRecDepth 1000000 in
set_option maxHeartbeats 8000000 in
theorem freg6_c {KK : Act → World → Prop} {Q0 : Exit → Act → World → Prop} (W w : World) (hBw : Below W.heap.size W w) (lWw : W.heap.size ≤ w.heap.size) (B : Nat) (v1 : Value) (zs : List Int) (k c : Int) (ho : OwnI B w v1 zs) (HZ : Hid (c = 0 → 1 ≤ k ∧ k ≤ 1000000 ∧ ∃ a b d e : Int, zs = [a, b, d, e] ∧ (0 ≤ a ∧ a < k) ∧ (0 ≤ b ∧ b < k) ∧ (0 ≤ d ∧ d < k) ∧ (0 ≤ e ∧ e < k) ∧ (a * e - b * d - 1).tmod k = 0))   (L0 L1 L2 L3 L4 L5 L6 L7 L8 L9 L10 L11 L12 L13 L14 L15 L16 L17 L18 L19 L20 L21 L22 L23 L24 L25 L26 L27 L28 L29 L30 L31 L32 L33 L34 L35 L36 L37 L38 L39 L40 L44 L45 L46 L47 L48 L49 L50 L51 L52 L53 L54 L55 L56 L57 L58 L59 L60 L61 L62 L63 L64 L65 L66 L67 L68 L69 L70 L71 L72 L73 L74 L75 L76 L77 L78 L79 L80 L81 L82 L83 L84 L85 L86 L87 L88 L89 L90 L91 L92 L93 L94 L95 L96 L97 L98 L99 L100 L101 L102 L103 L104 L105 L106 L107 L108 L109 L110 L111 L112 L113 L114 L115 L116 L117 L118 L119 L120 L121 L122 L123 L124 L125 L126 L127 L128 L129 L130 L131 L132 L133 L134 L135 L136 L137 L138 L139 L140 L141 L142 L143 L144 L145 L146 L147 L148 L149 L150 L151 L152 L153 L154 L155 L156 L157 L158 L159 L160 L161 L162 L163 L164 L165 L166 L167 L168 L169 L170 L171 L172 L173 L174 L175 L176 L177 L178 L179 L180 L181 L182 L183 L184 L185 L186 L187 L188 L189 L190 L191 L192 L193 L194 L195 L196 L197 L198 L199 L200 L201 L202 L203 L204 L205 L206 L207 L208 L209 L210 L211 L212 L213 L214 L215 L216 L217 L218 L219 L220 L221 L222 L223 L224 L225 L226 L227 L228 L229 L230 L231 L232 L233 L234 L235 L236 L237 L238 L239 L240 L241 L242 L243 L244 L245 L246 L247 L248 L249 L250 L251 L252 L253 L254 L255 L256 L257 L258 L259 L260 L261 L262 L263 L264 L265 L266 L267 L268 L269 L270 L271 L272 L273 L274 L275 L276 L277 L278 L279 L280 L281 L282 L283 L284 L285 L286 L287 L288 L289 L290 L291 L292 L293 L294 L295 L296 L297 L298 L299 L300 L301 L302 L303 L304 L305 L306 L307 L308 L309 L310 L311 L312 L313 L314 L315 L316 L317 L318 L319 L320 L321 L322 L323 L324 L325 L326 L327 L328 L329 L330 L331 L332 L333 L334 L335 L336 L337 L338 L339 L340 L341 L342 L343 L344 L345 L346 L347 L348 L349 L350 L351 L352 L353 L354 L355 L356 L357 L358 L359 L360 L361 L362 L363 L364 L365 L366 L367 L368 L369 L370 L371 L372 L373 L374 L375 L376 L377 L378 L379 L380 L381 L382 L383 L384 L385 L386 L387 L388 L389 L390 L391 L392 : Value)
    (hfin : ∀ (v302 v303 v304 v305 v306 v307 v308 v309 v310 v311 v312 v313 v314 v315 v316 v317 v318 v319 v320 v321 v322 v323 v324 v325 v326 v327 : Value) (wx : World), (Below w.heap.size w wx) → KK ⟨#[L0, L1, L2, L3, L4, L5, L6, L7, L8, L9, L10, L11, L12, L13, L14, L15, L16, L17, L18, L19, L20, L21, L22, L23, L24, L25, L26, L27, L28, L29, L30, L31, L32, L33, L34, L35, L36, L37, L38, L39, L40, .int .i64 k, v1, .int .i64 c, L44, L45, L46, L47, L48, L49, L50, L51, L52, L53, L54, L55, L56, L57, L58, L59, L60, L61, L62, L63, L64, L65, L66, L67, L68, L69, L70, L71, L72, L73, L74, L75, L76, L77, L78, L79, L80, L81, L82, L83, L84, L85, L86, L87, L88, L89, L90, L91, L92, L93, L94, L95, L96, L97, L98, L99, L100, L101, L102, L103, L104, L105, L106, L107, L108, L109, L110, L111, L112, L113, L114, L115, L116, L117, L118, L119, L120, L121, L122, L123, L124, L125, L126, L127, L128, L129, L130, L131, L132, L133, L134, L135, L136, L137, L138, L139, L140, L141, L142, L143, L144, L145, L146, L147, L148, L149, L150, L151, L152, L153, L154, L155, L156, L157, L158, L159, L160, L161, L162, L163, L164, L165, L166, L167, L168, L169, L170, L171, L172, L173, L174, L175, L176, L177, L178, L179, L180, L181, L182, L183, L184, L185, L186, L187, L188, L189, L190, L191, L192, L193, L194, L195, L196, L197, L198, L199, L200, L201, L202, L203, L204, L205, L206, L207, L208, L209, L210, L211, L212, L213, L214, L215, L216, L217, L218, L219, L220, L221, L222, L223, L224, L225, L226, L227, L228, L229, L230, L231, L232, L233, L234, L235, L236, L237, L238, L239, L240, L241, L242, L243, L244, L245, L246, L247, L248, L249, L250, L251, L252, L253, L254, L255, L256, L257, L258, L259, L260, L261, L262, L263, L264, L265, L266, L267, L268, L269, L270, L271, L272, L273, L274, L275, L276, L277, L278, L279, L280, L281, L282, L283, L284, L285, L286, L287, L288, L289, L290, L291, L292, L293, L294, L295, L296, L297, L298, L299, L300, L301, v302, v303, v304, v305, v306, v307, v308, v309, v310, v311, v312, v313, v314, v315, v316, v317, v318, v319, v320, v321, v322, v323, v324, v325, v326, v327, .bool false, L329, L330, L331, L332, L333, L334, L335, L336, L337, L338, L339, L340, L341, L342, L343, L344, L345, L346, L347, L348, L349, L350, L351, L352, L353, L354, L355, L356, L357, L358, L359, L360, L361, L362, L363, L364, L365, L366, L367, L368, L369, L370, L371, L372, L373, L374, L375, L376, L377, L378, L379, L380, L381, L382, L383, L384, L385, L386, L387, L388, L389, L390, L391, L392], []⟩ wx) :
    Code.wp Tryz.prog ((Tryz.f3.body.bind (regionOf 39)).getD .skip) (Exit.then KK Q0) ⟨#[L0, L1, L2, L3, L4, L5, L6, L7, L8, L9, L10, L11, L12, L13, L14, L15, L16, L17, L18, L19, L20, L21, L22, L23, L24, L25, L26, L27, L28, L29, L30, L31, L32, L33, L34, L35, L36, L37, L38, L39, L40, .int .i64 k, v1, .int .i64 c, L44, L45, L46, L47, L48, L49, L50, L51, L52, L53, L54, L55, L56, L57, L58, L59, L60, L61, L62, L63, L64, L65, L66, L67, L68, L69, L70, L71, L72, L73, L74, L75, L76, L77, L78, L79, L80, L81, L82, L83, L84, L85, L86, L87, L88, L89, L90, L91, L92, L93, L94, L95, L96, L97, L98, L99, L100, L101, L102, L103, L104, L105, L106, L107, L108, L109, L110, L111, L112, L113, L114, L115, L116, L117, L118, L119, L120, L121, L122, L123, L124, L125, L126, L127, L128, L129, L130, L131, L132, L133, L134, L135, L136, L137, L138, L139, L140, L141, L142, L143, L144, L145, L146, L147, L148, L149, L150, L151, L152, L153, L154, L155, L156, L157, L158, L159, L160, L161, L162, L163, L164, L165, L166, L167, L168, L169, L170, L171, L172, L173, L174, L175, L176, L177, L178, L179, L180, L181, L182, L183, L184, L185, L186, L187, L188, L189, L190, L191, L192, L193, L194, L195, L196, L197, L198, L199, L200, L201, L202, L203, L204, L205, L206, L207, L208, L209, L210, L211, L212, L213, L214, L215, L216, L217, L218, L219, L220, L221, L222, L223, L224, L225, L226, L227, L228, L229, L230, L231, L232, L233, L234, L235, L236, L237, L238, L239, L240, L241, L242, L243, L244, L245, L246, L247, L248, L249, L250, L251, L252, L253, L254, L255, L256, L257, L258, L259, L260, L261, L262, L263, L264, L265, L266, L267, L268, L269, L270, L271, L272, L273, L274, L275, L276, L277, L278, L279, L280, L281, L282, L283, L284, L285, L286, L287, L288, L289, L290, L291, L292, L293, L294, L295, L296, L297, L298, L299, L300, L301, L302, L303, L304, L305, L306, L307, L308, L309, L310, L311, L312, L313, L314, L315, L316, L317, L318, L319, L320, L321, L322, L323, L324, L325, L326, L327, L328, L329, L330, L331, L332, L333, L334, L335, L336, L337, L338, L339, L340, L341, L342, L343, L344, L345, L346, L347, L348, L349, L350, L351, L352, L353, L354, L355, L356, L357, L358, L359, L360, L361, L362, L363, L364, L365, L366, L367, L368, L369, L370, L371, L372, L373, L374, L375, L376, L377, L378, L379, L380, L381, L382, L383, L384, L385, L386, L387, L388, L389, L390, L391, L392], []⟩ w := by
  conv => arg 2; whnf
  by_cases h1 : c = 0
  · obtain ⟨hk2, hk3, a, b, d, e, hze, ⟨a0, a1⟩, ⟨b0, b1⟩, ⟨d0, d1⟩, ⟨e0, e1⟩, hdet⟩ := HZ.out h1
    subst h1 hze
    rcases ho with ⟨h, -⟩ | ⟨g, cap, rfl, -, -, hrow, -⟩
    · cases h
    have q0 : w.cell? ⟨g, 0, none⟩ = some (.int .i64 a) := hrow 0 (by simp)
    have q1 : w.cell? ⟨g, 1, none⟩ = some (.int .i64 b) := hrow 1 (by simp)
    have q2 : w.cell? ⟨g, 2, none⟩ = some (.int .i64 d) := hrow 2 (by simp)
    have q3 : w.cell? ⟨g, 3, none⟩ = some (.int .i64 e) := hrow 3 (by simp)
    simp only [List.length_cons, List.length_nil]
    clear hrow HZ
    by_cases h2 : k < 1000
    · have h2' : decide (k < 1000) = true := decide_eq_true h2
      have hkz : (k == 0) = false := by simp; omega
      have m0 := Int.mul_nonneg a0 e0
      have m1 := Int.mul_nonneg b0 d0
      have m2 : a * e ≤ 1000000 := by have := Int.mul_le_mul (show a ≤ 1000 by omega) (show e ≤ 1000 by omega) e0 (by omega); omega
      have m3 : b * d ≤ 1000000 := by have := Int.mul_le_mul (show b ≤ 1000 by omega) (show d ≤ 1000 by omega) d0 (by omega); omega
      go_wp2
      go_quiet (fail)
      go_wp2
      exact (by repeat' (first | (with_reducible exact Below.refl _ _) | (with_reducible assumption) | (with_reducible refine below_drewN ?_ _) | (with_reducible refine Below.drew ?_) | (with_reducible refine Below.alloc ?_ ?_ _) | (with_reducible refine Below.setCell ?_ ?_ _) | (with_reducible refine Below.trans ?_ (Below.mono (by with_reducible assumption) ?_)) | go_size | (dsimp only; omega)))
    · have h2' : decide (k < 1000) = false := decide_eq_false h2
      go_wp2
      go_quiet (fail)
      go_wp2
      exact (by repeat' (first | (with_reducible exact Below.refl _ _) | (with_reducible assumption) | (with_reducible refine below_drewN ?_ _) | (with_reducible refine Below.drew ?_) | (with_reducible refine Below.alloc ?_ ?_ _) | (with_reducible refine Below.setCell ?_ ?_ _) | (with_reducible refine Below.trans ?_ (Below.mono (by with_reducible assumption) ?_)) | go_size | (dsimp only; omega)))
  · have h1' : (c == 0) = false := by simpa using h1
    go_wp2
    go_quiet (fail)
    go_wp2
    exact (by repeat' (first | (with_reducible exact Below.refl _ _) | (with_reducible assumption) | (with_reducible refine below_drewN ?_ _) | (with_reducible refine Below.drew ?_) | (with_reducible refine Below.alloc ?_ ?_ _) | (with_reducible refine Below.setCell ?_ ?_ _) | (with_reducible refine Below.trans ?_ (Below.mono (by with_reducible assumption) ?_)) | go_size | (dsimp only; omega)))
end Go.Proofs.YtlkhhpckgcdeeaaGreatDoor
