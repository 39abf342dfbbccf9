/- FnMatrixProducts: its parts, each by itself. [genLM.py] -/
import Derived.Test.YtlkhhpckgcdeeaaGreatDoorJE
import Derived.Test.YtlkhhpckgcdeeaaGreatDoorGV
import Derived.Test.YtlkhhpckgcdeeaaGreatDoorGX
import Derived.Test.YtlkhhpckgcdeeaaGreatDoorGI
import Derived.Deep.DeepCutAuto
import Derived.Test.YtlkhhpckgcdeeaaGreatDoorRG
import Derived.Deep.Light
namespace Go.Proofs.YtlkhhpckgcdeeaaGreatDoor
open Go.RowKit
set_option linter.unusedVariables false
set_option linter.unusedSimpArgs false
attribute [local go_sem] run_equalIn_M
def condOf (n : Nat) : Code → Option Code
  | .cond o a b => match (match o with | .tmp k => k == n | _ => false) with
    | true => some (.cond o a b)
    | false => match condOf n a with
      | some c => some c
      | none => condOf n b
  | .seq a b => match condOf n a with
    | some c => some c
    | none => condOf n b
  | .block _ c => condOf n c
  | .scope c => condOf n c
  | .loop c => condOf n c
  | _ => none
set_option maxRecDepth 1000000 in
set_option maxHeartbeats 8000000 in
theorem sec1_c {KK : Act → World → Prop} {Q0 : Exit → Act → World → Prop} (W w : World) (hBw : Below W.heap.size W w) (lWw : W.heap.size ≤ w.heap.size) (vm : Int) (vt1 vt2 : TypeId) (vp1 vp2 : Value) (HV : Hid (∀ w, Below W.heap.size W w → Vars w vm vt1 vt2 vp1 vp2)) (bm bn bx : Nat) (m0 m1 m2 m3 n0 n1 n2 n3 x0 x1 x2 x3 x4 : Int) (HX : Hid (x4 = 0 → isM m0 m1 m2 m3 = true ∧ isM n0 n1 n2 n3 = true ∧ isM x0 x1 x2 x3 = true ∧ (⟨x0, x1, x2, x3⟩ : M4) = M4.mul ⟨m0, m1, m2, m3⟩ ⟨n0, n1, n2, n3⟩)) (cw_bm_0 : w.cell? ⟨bm, 0, none⟩ = some (.int .i64 m0)) (cw_bm_1 : w.cell? ⟨bm, 1, none⟩ = some (.int .i64 m1)) (cw_bm_2 : w.cell? ⟨bm, 2, none⟩ = some (.int .i64 m2)) (cw_bm_3 : w.cell? ⟨bm, 3, none⟩ = some (.int .i64 m3)) (cw_bn_0 : w.cell? ⟨bn, 0, none⟩ = some (.int .i64 n0)) (cw_bn_1 : w.cell? ⟨bn, 1, none⟩ = some (.int .i64 n1)) (cw_bn_2 : w.cell? ⟨bn, 2, none⟩ = some (.int .i64 n2)) (cw_bn_3 : w.cell? ⟨bn, 3, none⟩ = some (.int .i64 n3)) (cw_bx_0 : w.cell? ⟨bx, 0, none⟩ = some (.int .i64 x0)) (cw_bx_1 : w.cell? ⟨bx, 1, none⟩ = some (.int .i64 x1)) (cw_bx_2 : w.cell? ⟨bx, 2, none⟩ = some (.int .i64 x2)) (cw_bx_3 : w.cell? ⟨bx, 3, none⟩ = some (.int .i64 x3)) (cw_bm_l : bm < w.heap.size) (cw_bn_l : bn < w.heap.size) (cw_bx_l : bx < w.heap.size) (L0 L1 L2 L7 L8 L9 L10 L11 L12 L13 L14 L15 L16 L17 L18 L19 L20 L21 L22 L23 L24 L25 L26 L27 L28 L29 L30 L31 L32 L33 L34 L35 L36 L37 L38 L39 L40 L41 L42 L43 L44 L45 L46 L47 L48 L49 L50 L51 L52 L53 L54 L55 L56 L57 L58 L59 L60 L61 L62 L63 L64 L65 L66 L67 L68 L69 L70 L71 L72 L73 L74 L75 L76 L77 L78 L79 L80 L81 L82 L83 L84 L85 L86 L87 L88 L89 L90 L91 L92 L93 L94 L95 L96 L97 L98 L99 L100 L101 L102 L104 L105 L106 L107 L108 L109 L110 L111 L112 L113 L114 L115 L116 L117 L118 L119 L120 L121 L122 L123 L124 L125 L126 L127 L128 L129 L130 L131 L132 L133 L134 L135 L136 L137 L138 L139 L140 L141 L142 L143 L144 L145 L146 L147 L148 L149 L150 L151 L152 L153 L154 L155 L156 L157 L158 L159 L160 L161 L162 L163 L164 L165 L166 L167 L168 L169 L170 L171 L172 L173 L174 L175 L176 L177 L178 L179 L180 L181 L182 L183 L184 L185 L186 L187 L188 L189 L190 L191 L192 L193 L194 L195 L196 L197 L198 L199 L200 L201 L202 L203 L204 L205 L206 L207 L208 L209 L210 L211 L212 L213 L214 L215 L216 L217 L218 L219 L220 L221 L222 L223 L224 L225 L226 L227 L228 L229 L230 L231 L232 L233 L234 L235 L236 L237 L238 L239 L240 L241 L242 L243 L244 L245 L246 L247 L248 L249 L250 L251 L252 L253 L254 L255 L256 L257 L258 L259 L260 L261 L262 L263 L264 L265 L266 L267 L268 L269 L270 L271 L272 L273 L274 L275 L276 L277 L278 L279 L280 L281 L282 L283 L284 L285 L286 L287 L288 L289 L290 L291 L292 L293 L294 L295 L296 L297 L298 L299 L300 L301 L302 L303 L304 L305 L306 L307 L308 L309 L310 L311 L312 L313 L314 L315 L316 L317 L318 L319 L320 L321 L322 L323 L324 L325 L326 L327 L328 L329 L330 L331 L332 L333 L334 L335 L336 L337 L338 L339 L340 L341 L342 L343 L344 L345 L346 L347 L348 L349 L350 L351 L352 L353 L354 L355 L356 L357 L358 L359 L360 L361 L362 L363 L364 L365 L366 L367 L368 L369 L370 L371 L372 L373 L374 L375 L376 L377 L378 L379 L380 L381 L382 L383 L384 L385 L386 L387 L388 L389 L390 L391 L392 L393 L394 L395 L396 L397 L398 L399 L400 L401 L402 L403 L404 L405 L406 L407 L408 L409 L410 L411 L412 L413 L414 : Value)
    (hfin : ∀ (v9 v10 v11 v12 v13 v14 v15 v16 v104 v105 v106 v107 v108 v109 v110 v111 v112 v113 v114 v115 v116 v117 v118 v119 v120 v121 v122 v123 v124 v125 v126 v127 v128 v129 v130 v131 v132 v133 v134 v135 v136 v137 v138 v139 v140 v141 v142 v143 v144 v145 v146 v147 v148 : Value) (wx : World), (Below W.heap.size W wx) → KK ⟨#[L0, L1, L2, .pointer (some ⟨bm, 0, none⟩), .pointer (some ⟨bn, 0, none⟩), .pointer (some ⟨bx, 0, none⟩), .int .i64 x4, L7, L8, v9, v10, v11, v12, v13, v14, v15, v16, L17, L18, L19, L20, L21, L22, L23, L24, L25, L26, L27, L28, L29, L30, L31, L32, L33, L34, L35, L36, L37, L38, L39, L40, L41, L42, L43, L44, L45, L46, L47, L48, L49, L50, L51, L52, L53, L54, L55, L56, L57, L58, L59, L60, L61, L62, L63, L64, L65, L66, L67, L68, L69, L70, L71, L72, L73, L74, L75, L76, L77, L78, L79, L80, L81, L82, L83, L84, L85, L86, L87, L88, L89, L90, L91, L92, L93, L94, L95, L96, L97, L98, L99, L100, L101, L102, .bool (x4 == 0), v104, v105, v106, v107, v108, v109, v110, v111, v112, v113, v114, v115, v116, v117, v118, v119, v120, v121, v122, v123, v124, v125, v126, v127, v128, v129, v130, v131, v132, v133, v134, v135, v136, v137, v138, v139, v140, v141, v142, v143, v144, v145, v146, v147, v148, L149, L150, L151, L152, L153, L154, L155, L156, L157, L158, L159, L160, L161, L162, L163, L164, L165, L166, L167, L168, L169, L170, L171, L172, L173, L174, L175, L176, L177, L178, L179, L180, L181, L182, L183, L184, L185, L186, L187, L188, L189, L190, L191, L192, L193, L194, L195, L196, L197, L198, L199, L200, L201, L202, L203, L204, L205, L206, L207, L208, L209, L210, L211, L212, L213, L214, L215, L216, L217, L218, L219, L220, L221, L222, L223, L224, L225, L226, L227, L228, L229, L230, L231, L232, L233, L234, L235, L236, L237, L238, L239, L240, L241, L242, L243, L244, L245, L246, L247, L248, L249, L250, L251, L252, L253, L254, L255, L256, L257, L258, L259, L260, L261, L262, L263, L264, L265, L266, L267, L268, L269, L270, L271, L272, L273, L274, L275, L276, L277, L278, L279, L280, L281, L282, L283, L284, L285, L286, L287, L288, L289, L290, L291, L292, L293, L294, L295, L296, L297, L298, L299, L300, L301, L302, L303, L304, L305, L306, L307, L308, L309, L310, L311, L312, L313, L314, L315, L316, L317, L318, L319, L320, L321, L322, L323, L324, L325, L326, L327, L328, L329, L330, L331, L332, L333, L334, L335, L336, L337, L338, L339, L340, L341, L342, L343, L344, L345, L346, L347, L348, L349, L350, L351, L352, L353, L354, L355, L356, L357, L358, L359, L360, L361, L362, L363, L364, L365, L366, L367, L368, L369, L370, L371, L372, L373, L374, L375, L376, L377, L378, L379, L380, L381, L382, L383, L384, L385, L386, L387, L388, L389, L390, L391, L392, L393, L394, L395, L396, L397, L398, L399, L400, L401, L402, L403, L404, L405, L406, L407, L408, L409, L410, L411, L412, L413, L414], []⟩ wx) :
    Code.wp Tryz.prog ((Tryz.f4.body.bind (condOf 103)).getD .skip) (Exit.then KK Q0) ⟨#[L0, L1, L2, .pointer (some ⟨bm, 0, none⟩), .pointer (some ⟨bn, 0, none⟩), .pointer (some ⟨bx, 0, none⟩), .int .i64 x4, L7, L8, L9, L10, L11, L12, L13, L14, L15, L16, L17, L18, L19, L20, L21, L22, L23, L24, L25, L26, L27, L28, L29, L30, L31, L32, L33, L34, L35, L36, L37, L38, L39, L40, L41, L42, L43, L44, L45, L46, L47, L48, L49, L50, L51, L52, L53, L54, L55, L56, L57, L58, L59, L60, L61, L62, L63, L64, L65, L66, L67, L68, L69, L70, L71, L72, L73, L74, L75, L76, L77, L78, L79, L80, L81, L82, L83, L84, L85, L86, L87, L88, L89, L90, L91, L92, L93, L94, L95, L96, L97, L98, L99, L100, L101, L102, .bool (x4 == 0), L104, L105, L106, L107, L108, L109, L110, L111, L112, L113, L114, L115, L116, L117, L118, L119, L120, L121, L122, L123, L124, L125, L126, L127, L128, L129, L130, L131, L132, L133, L134, L135, L136, L137, L138, L139, L140, L141, L142, L143, L144, L145, L146, L147, L148, L149, L150, L151, L152, L153, L154, L155, L156, L157, L158, L159, L160, L161, L162, L163, L164, L165, L166, L167, L168, L169, L170, L171, L172, L173, L174, L175, L176, L177, L178, L179, L180, L181, L182, L183, L184, L185, L186, L187, L188, L189, L190, L191, L192, L193, L194, L195, L196, L197, L198, L199, L200, L201, L202, L203, L204, L205, L206, L207, L208, L209, L210, L211, L212, L213, L214, L215, L216, L217, L218, L219, L220, L221, L222, L223, L224, L225, L226, L227, L228, L229, L230, L231, L232, L233, L234, L235, L236, L237, L238, L239, L240, L241, L242, L243, L244, L245, L246, L247, L248, L249, L250, L251, L252, L253, L254, L255, L256, L257, L258, L259, L260, L261, L262, L263, L264, L265, L266, L267, L268, L269, L270, L271, L272, L273, L274, L275, L276, L277, L278, L279, L280, L281, L282, L283, L284, L285, L286, L287, L288, L289, L290, L291, L292, L293, L294, L295, L296, L297, L298, L299, L300, L301, L302, L303, L304, L305, L306, L307, L308, L309, L310, L311, L312, L313, L314, L315, L316, L317, L318, L319, L320, L321, L322, L323, L324, L325, L326, L327, L328, L329, L330, L331, L332, L333, L334, L335, L336, L337, L338, L339, L340, L341, L342, L343, L344, L345, L346, L347, L348, L349, L350, L351, L352, L353, L354, L355, L356, L357, L358, L359, L360, L361, L362, L363, L364, L365, L366, L367, L368, L369, L370, L371, L372, L373, L374, L375, L376, L377, L378, L379, L380, L381, L382, L383, L384, L385, L386, L387, L388, L389, L390, L391, L392, L393, L394, L395, L396, L397, L398, L399, L400, L401, L402, L403, L404, L405, L406, L407, L408, L409, L410, L411, L412, L413, L414], []⟩ w := by
  conv => arg 2; whnf
  by_cases h1 : x4 = 0
  · obtain ⟨hM, hN, hX, hXe⟩ := HX.out h1
    subst h1
    obtain ⟨y0, y1, y2, y3, y4, K3, -, hy⟩ := prod_all x0 x1 x2 x3 n3 (-n1) (-n2) n0
    have HY : Hid (y4 = 0 → y0 = m0 ∧ y1 = m1 ∧ y2 = m2 ∧ y3 = m3) := Lib.hid (fun h => by
      have h2 := (hy h).2.2.2
      rw [hXe] at h2
      have h3 := M4.inv_back ⟨m0, m1, m2, m3⟩ ⟨n0, n1, n2, n3⟩ (isM_to4 hN).2
      have h4 := h2.trans h3
      injection h4 with q0 q1 q2 q3
      exact ⟨q0, q1, q2, q3⟩)
    have HN := Lib.hid hN
    have HXM := Lib.hid hX
    obtain ⟨S, hS⟩ : ∃ S : ByteArray, (⟨(joinT [x0, x1, x2, x3] 44).toArray⟩ : ByteArray) = S := ⟨_, rfl⟩
    have K4 : Hid (∀ w, Below W.heap.size W w → Calls Tryz.prog 42 #[.agg #[.int .i64 x0, .int .i64 x1, .int .i64 x2, .int .i64 x3]] w fun e w' => e = .returned (.tuple #[.string S, .int .i64 0]) ∧ Below w.heap.size w w') := Lib.hid (fun w h => by rw [← hS]; exact MatrixText_yes x0 x1 x2 x3 w HXM.out (Lib.hid (HV.out w h).tab))
    have K5 : Hid (∀ w, Below W.heap.size W w → Calls Tryz.prog 43 #[.string S] w fun e w' => e = .returned (.tuple #[.agg #[.int .i64 x0, .int .i64 x1, .int .i64 x2, .int .i64 x3], .int .i64 0]) ∧ Below w.heap.size w w') := Lib.hid (fun w h => by
      have h5 := ParseMatrix_c S w vm vt1 vt2 vp1 vp2 (by rw [← hS]; have := read_size HXM.out; omega) (Lib.hid (HV.out w h))
      rw [← hS] at h5 ⊢
      rw [show (⟨(joinT [x0, x1, x2, x3] 44).toArray⟩ : ByteArray).data.toList = joinT [x0, x1, x2, x3] 44 by simp, read_text HXM.out] at h5
      exact h5)
    obtain ⟨⟨ni0, ni1⟩, ⟨ni2, ni3⟩, ⟨ni4, ni5⟩, ⟨ni6, ni7⟩, -⟩ := isM_iff.mp hN
    clear hy hM hN hX hXe hS
    go_wp2_with fail
    refine (InverseOf_yes n0 n1 n2 n3 _ HN.out).mono ?_
    rintro e w1 ⟨rfl, bw1⟩
    have zw1 : w.heap.size ≤ w1.heap.size := bw1.size
    have cw1_bm_0 : w1.cell? ⟨bm, 0, none⟩ = some (.int .i64 m0) := by rw [bw1.cell (p := ⟨bm, 0, none⟩) (by dsimp only; omega)]; exact cw_bm_0
    have cw1_bm_1 : w1.cell? ⟨bm, 1, none⟩ = some (.int .i64 m1) := by rw [bw1.cell (p := ⟨bm, 1, none⟩) (by dsimp only; omega)]; exact cw_bm_1
    have cw1_bm_2 : w1.cell? ⟨bm, 2, none⟩ = some (.int .i64 m2) := by rw [bw1.cell (p := ⟨bm, 2, none⟩) (by dsimp only; omega)]; exact cw_bm_2
    have cw1_bm_3 : w1.cell? ⟨bm, 3, none⟩ = some (.int .i64 m3) := by rw [bw1.cell (p := ⟨bm, 3, none⟩) (by dsimp only; omega)]; exact cw_bm_3
    have cw1_bm_l : bm < w1.heap.size := by omega
    have cw1_bn_0 : w1.cell? ⟨bn, 0, none⟩ = some (.int .i64 n0) := by rw [bw1.cell (p := ⟨bn, 0, none⟩) (by dsimp only; omega)]; exact cw_bn_0
    have cw1_bn_1 : w1.cell? ⟨bn, 1, none⟩ = some (.int .i64 n1) := by rw [bw1.cell (p := ⟨bn, 1, none⟩) (by dsimp only; omega)]; exact cw_bn_1
    have cw1_bn_2 : w1.cell? ⟨bn, 2, none⟩ = some (.int .i64 n2) := by rw [bw1.cell (p := ⟨bn, 2, none⟩) (by dsimp only; omega)]; exact cw_bn_2
    have cw1_bn_3 : w1.cell? ⟨bn, 3, none⟩ = some (.int .i64 n3) := by rw [bw1.cell (p := ⟨bn, 3, none⟩) (by dsimp only; omega)]; exact cw_bn_3
    have cw1_bn_l : bn < w1.heap.size := by omega
    have cw1_bx_0 : w1.cell? ⟨bx, 0, none⟩ = some (.int .i64 x0) := by rw [bw1.cell (p := ⟨bx, 0, none⟩) (by dsimp only; omega)]; exact cw_bx_0
    have cw1_bx_1 : w1.cell? ⟨bx, 1, none⟩ = some (.int .i64 x1) := by rw [bw1.cell (p := ⟨bx, 1, none⟩) (by dsimp only; omega)]; exact cw_bx_1
    have cw1_bx_2 : w1.cell? ⟨bx, 2, none⟩ = some (.int .i64 x2) := by rw [bw1.cell (p := ⟨bx, 2, none⟩) (by dsimp only; omega)]; exact cw_bx_2
    have cw1_bx_3 : w1.cell? ⟨bx, 3, none⟩ = some (.int .i64 x3) := by rw [bw1.cell (p := ⟨bx, 3, none⟩) (by dsimp only; omega)]; exact cw_bx_3
    have cw1_bx_l : bx < w1.heap.size := by omega
    have lWw1 : W.heap.size ≤ w1.heap.size := by omega
    have hBw1 : Below W.heap.size W w1 := hBw.trans (bw1.mono (by omega))
    clear zw1 bw1 cw_bm_0 cw_bm_1 cw_bm_2 cw_bm_3 cw_bm_l cw_bn_0 cw_bn_1 cw_bn_2 cw_bn_3 cw_bn_l cw_bx_0 cw_bx_1 cw_bx_2 cw_bx_3 cw_bx_l lWw hBw
    go_wp2_with fail
    generalize hww2 : World.alloc _ _ = w2
    obtain ⟨bk, hbk⟩ : ∃ b, w1.heap.size = b := ⟨_, rfl⟩
    have bbw2 : Below bk w1 w2 := by subst hww2 hbk; exact (by repeat' (first | (with_reducible exact Below.refl _ _) | (with_reducible assumption) | (with_reducible refine below_drewN ?_ _) | (with_reducible refine Below.drew ?_) | (with_reducible refine Below.alloc ?_ ?_ _) | (with_reducible refine Below.setCell ?_ ?_ _) | (with_reducible refine Below.trans ?_ (Below.mono (by with_reducible assumption) ?_)) | go_size | (dsimp only; omega)))
    have cw2_bk_0 : w2.cell? ⟨bk, 0, none⟩ = some (.int .i64 n3) := by subst hww2 hbk; first | (go_cell; done) | (go_simp; done)
    have cw2_bk_1 : w2.cell? ⟨bk, 1, none⟩ = some (.int .i64 (-n1)) := by subst hww2 hbk; first | (go_cell; done) | (go_simp; done)
    have cw2_bk_2 : w2.cell? ⟨bk, 2, none⟩ = some (.int .i64 (-n2)) := by subst hww2 hbk; first | (go_cell; done) | (go_simp; done)
    have cw2_bk_3 : w2.cell? ⟨bk, 3, none⟩ = some (.int .i64 n0) := by subst hww2 hbk; first | (go_cell; done) | (go_simp; done)
    have cw2_bk_l : bk < w2.heap.size := by subst hww2 hbk; go_size
    have yw2 := bbw2.size
    (try rw [hbk])
    clear hww2
    have zw2 : w1.heap.size ≤ w2.heap.size := yw2
    have cw2_bm_0 : w2.cell? ⟨bm, 0, none⟩ = some (.int .i64 m0) := by rw [bbw2.cell (p := ⟨bm, 0, none⟩) (by dsimp only; omega)]; exact cw1_bm_0
    have cw2_bm_1 : w2.cell? ⟨bm, 1, none⟩ = some (.int .i64 m1) := by rw [bbw2.cell (p := ⟨bm, 1, none⟩) (by dsimp only; omega)]; exact cw1_bm_1
    have cw2_bm_2 : w2.cell? ⟨bm, 2, none⟩ = some (.int .i64 m2) := by rw [bbw2.cell (p := ⟨bm, 2, none⟩) (by dsimp only; omega)]; exact cw1_bm_2
    have cw2_bm_3 : w2.cell? ⟨bm, 3, none⟩ = some (.int .i64 m3) := by rw [bbw2.cell (p := ⟨bm, 3, none⟩) (by dsimp only; omega)]; exact cw1_bm_3
    have cw2_bm_l : bm < w2.heap.size := by omega
    have cw2_bn_0 : w2.cell? ⟨bn, 0, none⟩ = some (.int .i64 n0) := by rw [bbw2.cell (p := ⟨bn, 0, none⟩) (by dsimp only; omega)]; exact cw1_bn_0
    have cw2_bn_1 : w2.cell? ⟨bn, 1, none⟩ = some (.int .i64 n1) := by rw [bbw2.cell (p := ⟨bn, 1, none⟩) (by dsimp only; omega)]; exact cw1_bn_1
    have cw2_bn_2 : w2.cell? ⟨bn, 2, none⟩ = some (.int .i64 n2) := by rw [bbw2.cell (p := ⟨bn, 2, none⟩) (by dsimp only; omega)]; exact cw1_bn_2
    have cw2_bn_3 : w2.cell? ⟨bn, 3, none⟩ = some (.int .i64 n3) := by rw [bbw2.cell (p := ⟨bn, 3, none⟩) (by dsimp only; omega)]; exact cw1_bn_3
    have cw2_bn_l : bn < w2.heap.size := by omega
    have cw2_bx_0 : w2.cell? ⟨bx, 0, none⟩ = some (.int .i64 x0) := by rw [bbw2.cell (p := ⟨bx, 0, none⟩) (by dsimp only; omega)]; exact cw1_bx_0
    have cw2_bx_1 : w2.cell? ⟨bx, 1, none⟩ = some (.int .i64 x1) := by rw [bbw2.cell (p := ⟨bx, 1, none⟩) (by dsimp only; omega)]; exact cw1_bx_1
    have cw2_bx_2 : w2.cell? ⟨bx, 2, none⟩ = some (.int .i64 x2) := by rw [bbw2.cell (p := ⟨bx, 2, none⟩) (by dsimp only; omega)]; exact cw1_bx_2
    have cw2_bx_3 : w2.cell? ⟨bx, 3, none⟩ = some (.int .i64 x3) := by rw [bbw2.cell (p := ⟨bx, 3, none⟩) (by dsimp only; omega)]; exact cw1_bx_3
    have cw2_bx_l : bx < w2.heap.size := by omega
    have lWw2 : W.heap.size ≤ w2.heap.size := by omega
    have hBw2 : Below W.heap.size W w2 := hBw1.trans (bbw2.mono (by omega))
    clear zw2 bbw2 cw1_bm_0 cw1_bm_1 cw1_bm_2 cw1_bm_3 cw1_bm_l cw1_bn_0 cw1_bn_1 cw1_bn_2 cw1_bn_3 cw1_bn_l cw1_bx_0 cw1_bx_1 cw1_bx_2 cw1_bx_3 cw1_bx_l lWw1 hBw1
    clear yw2 hbk
    refine (K3.out.get _).mono ?_
    rintro e w3 ⟨rfl, bw3⟩
    have zw3 : w2.heap.size ≤ w3.heap.size := bw3.size
    have cw3_bm_0 : w3.cell? ⟨bm, 0, none⟩ = some (.int .i64 m0) := by rw [bw3.cell (p := ⟨bm, 0, none⟩) (by dsimp only; omega)]; exact cw2_bm_0
    have cw3_bm_1 : w3.cell? ⟨bm, 1, none⟩ = some (.int .i64 m1) := by rw [bw3.cell (p := ⟨bm, 1, none⟩) (by dsimp only; omega)]; exact cw2_bm_1
    have cw3_bm_2 : w3.cell? ⟨bm, 2, none⟩ = some (.int .i64 m2) := by rw [bw3.cell (p := ⟨bm, 2, none⟩) (by dsimp only; omega)]; exact cw2_bm_2
    have cw3_bm_3 : w3.cell? ⟨bm, 3, none⟩ = some (.int .i64 m3) := by rw [bw3.cell (p := ⟨bm, 3, none⟩) (by dsimp only; omega)]; exact cw2_bm_3
    have cw3_bm_l : bm < w3.heap.size := by omega
    have cw3_bn_0 : w3.cell? ⟨bn, 0, none⟩ = some (.int .i64 n0) := by rw [bw3.cell (p := ⟨bn, 0, none⟩) (by dsimp only; omega)]; exact cw2_bn_0
    have cw3_bn_1 : w3.cell? ⟨bn, 1, none⟩ = some (.int .i64 n1) := by rw [bw3.cell (p := ⟨bn, 1, none⟩) (by dsimp only; omega)]; exact cw2_bn_1
    have cw3_bn_2 : w3.cell? ⟨bn, 2, none⟩ = some (.int .i64 n2) := by rw [bw3.cell (p := ⟨bn, 2, none⟩) (by dsimp only; omega)]; exact cw2_bn_2
    have cw3_bn_3 : w3.cell? ⟨bn, 3, none⟩ = some (.int .i64 n3) := by rw [bw3.cell (p := ⟨bn, 3, none⟩) (by dsimp only; omega)]; exact cw2_bn_3
    have cw3_bn_l : bn < w3.heap.size := by omega
    have cw3_bx_0 : w3.cell? ⟨bx, 0, none⟩ = some (.int .i64 x0) := by rw [bw3.cell (p := ⟨bx, 0, none⟩) (by dsimp only; omega)]; exact cw2_bx_0
    have cw3_bx_1 : w3.cell? ⟨bx, 1, none⟩ = some (.int .i64 x1) := by rw [bw3.cell (p := ⟨bx, 1, none⟩) (by dsimp only; omega)]; exact cw2_bx_1
    have cw3_bx_2 : w3.cell? ⟨bx, 2, none⟩ = some (.int .i64 x2) := by rw [bw3.cell (p := ⟨bx, 2, none⟩) (by dsimp only; omega)]; exact cw2_bx_2
    have cw3_bx_3 : w3.cell? ⟨bx, 3, none⟩ = some (.int .i64 x3) := by rw [bw3.cell (p := ⟨bx, 3, none⟩) (by dsimp only; omega)]; exact cw2_bx_3
    have cw3_bx_l : bx < w3.heap.size := by omega
    have cw3_bk_0 : w3.cell? ⟨bk, 0, none⟩ = some (.int .i64 n3) := by rw [bw3.cell (p := ⟨bk, 0, none⟩) (by dsimp only; omega)]; exact cw2_bk_0
    have cw3_bk_1 : w3.cell? ⟨bk, 1, none⟩ = some (.int .i64 (-n1)) := by rw [bw3.cell (p := ⟨bk, 1, none⟩) (by dsimp only; omega)]; exact cw2_bk_1
    have cw3_bk_2 : w3.cell? ⟨bk, 2, none⟩ = some (.int .i64 (-n2)) := by rw [bw3.cell (p := ⟨bk, 2, none⟩) (by dsimp only; omega)]; exact cw2_bk_2
    have cw3_bk_3 : w3.cell? ⟨bk, 3, none⟩ = some (.int .i64 n0) := by rw [bw3.cell (p := ⟨bk, 3, none⟩) (by dsimp only; omega)]; exact cw2_bk_3
    have cw3_bk_l : bk < w3.heap.size := by omega
    have lWw3 : W.heap.size ≤ w3.heap.size := by omega
    have hBw3 : Below W.heap.size W w3 := hBw2.trans (bw3.mono (by omega))
    clear zw3 bw3 cw2_bm_0 cw2_bm_1 cw2_bm_2 cw2_bm_3 cw2_bm_l cw2_bn_0 cw2_bn_1 cw2_bn_2 cw2_bn_3 cw2_bn_l cw2_bx_0 cw2_bx_1 cw2_bx_2 cw2_bx_3 cw2_bx_l cw2_bk_0 cw2_bk_1 cw2_bk_2 cw2_bk_3 cw2_bk_l lWw2 hBw2
    go_wp2_with fail
    generalize hww4 : World.alloc _ _ = w4
    obtain ⟨bg, hbg⟩ : ∃ b, w3.heap.size = b := ⟨_, rfl⟩
    have bbw4 : Below bg w3 w4 := by subst hww4 hbg; exact (by repeat' (first | (with_reducible exact Below.refl _ _) | (with_reducible assumption) | (with_reducible refine below_drewN ?_ _) | (with_reducible refine Below.drew ?_) | (with_reducible refine Below.alloc ?_ ?_ _) | (with_reducible refine Below.setCell ?_ ?_ _) | (with_reducible refine Below.trans ?_ (Below.mono (by with_reducible assumption) ?_)) | go_size | (dsimp only; omega)))
    have cw4_bg_0 : w4.cell? ⟨bg, 0, none⟩ = some (.int .i64 y0) := by subst hww4 hbg; first | (go_cell; done) | (go_simp; done)
    have cw4_bg_1 : w4.cell? ⟨bg, 1, none⟩ = some (.int .i64 y1) := by subst hww4 hbg; first | (go_cell; done) | (go_simp; done)
    have cw4_bg_2 : w4.cell? ⟨bg, 2, none⟩ = some (.int .i64 y2) := by subst hww4 hbg; first | (go_cell; done) | (go_simp; done)
    have cw4_bg_3 : w4.cell? ⟨bg, 3, none⟩ = some (.int .i64 y3) := by subst hww4 hbg; first | (go_cell; done) | (go_simp; done)
    have cw4_bg_l : bg < w4.heap.size := by subst hww4 hbg; go_size
    have yw4 := bbw4.size
    (try rw [hbg])
    clear hww4
    have zw4 : w3.heap.size ≤ w4.heap.size := yw4
    have cw4_bm_0 : w4.cell? ⟨bm, 0, none⟩ = some (.int .i64 m0) := by rw [bbw4.cell (p := ⟨bm, 0, none⟩) (by dsimp only; omega)]; exact cw3_bm_0
    have cw4_bm_1 : w4.cell? ⟨bm, 1, none⟩ = some (.int .i64 m1) := by rw [bbw4.cell (p := ⟨bm, 1, none⟩) (by dsimp only; omega)]; exact cw3_bm_1
    have cw4_bm_2 : w4.cell? ⟨bm, 2, none⟩ = some (.int .i64 m2) := by rw [bbw4.cell (p := ⟨bm, 2, none⟩) (by dsimp only; omega)]; exact cw3_bm_2
    have cw4_bm_3 : w4.cell? ⟨bm, 3, none⟩ = some (.int .i64 m3) := by rw [bbw4.cell (p := ⟨bm, 3, none⟩) (by dsimp only; omega)]; exact cw3_bm_3
    have cw4_bm_l : bm < w4.heap.size := by omega
    have cw4_bn_0 : w4.cell? ⟨bn, 0, none⟩ = some (.int .i64 n0) := by rw [bbw4.cell (p := ⟨bn, 0, none⟩) (by dsimp only; omega)]; exact cw3_bn_0
    have cw4_bn_1 : w4.cell? ⟨bn, 1, none⟩ = some (.int .i64 n1) := by rw [bbw4.cell (p := ⟨bn, 1, none⟩) (by dsimp only; omega)]; exact cw3_bn_1
    have cw4_bn_2 : w4.cell? ⟨bn, 2, none⟩ = some (.int .i64 n2) := by rw [bbw4.cell (p := ⟨bn, 2, none⟩) (by dsimp only; omega)]; exact cw3_bn_2
    have cw4_bn_3 : w4.cell? ⟨bn, 3, none⟩ = some (.int .i64 n3) := by rw [bbw4.cell (p := ⟨bn, 3, none⟩) (by dsimp only; omega)]; exact cw3_bn_3
    have cw4_bn_l : bn < w4.heap.size := by omega
    have cw4_bx_0 : w4.cell? ⟨bx, 0, none⟩ = some (.int .i64 x0) := by rw [bbw4.cell (p := ⟨bx, 0, none⟩) (by dsimp only; omega)]; exact cw3_bx_0
    have cw4_bx_1 : w4.cell? ⟨bx, 1, none⟩ = some (.int .i64 x1) := by rw [bbw4.cell (p := ⟨bx, 1, none⟩) (by dsimp only; omega)]; exact cw3_bx_1
    have cw4_bx_2 : w4.cell? ⟨bx, 2, none⟩ = some (.int .i64 x2) := by rw [bbw4.cell (p := ⟨bx, 2, none⟩) (by dsimp only; omega)]; exact cw3_bx_2
    have cw4_bx_3 : w4.cell? ⟨bx, 3, none⟩ = some (.int .i64 x3) := by rw [bbw4.cell (p := ⟨bx, 3, none⟩) (by dsimp only; omega)]; exact cw3_bx_3
    have cw4_bx_l : bx < w4.heap.size := by omega
    have cw4_bk_0 : w4.cell? ⟨bk, 0, none⟩ = some (.int .i64 n3) := by rw [bbw4.cell (p := ⟨bk, 0, none⟩) (by dsimp only; omega)]; exact cw3_bk_0
    have cw4_bk_1 : w4.cell? ⟨bk, 1, none⟩ = some (.int .i64 (-n1)) := by rw [bbw4.cell (p := ⟨bk, 1, none⟩) (by dsimp only; omega)]; exact cw3_bk_1
    have cw4_bk_2 : w4.cell? ⟨bk, 2, none⟩ = some (.int .i64 (-n2)) := by rw [bbw4.cell (p := ⟨bk, 2, none⟩) (by dsimp only; omega)]; exact cw3_bk_2
    have cw4_bk_3 : w4.cell? ⟨bk, 3, none⟩ = some (.int .i64 n0) := by rw [bbw4.cell (p := ⟨bk, 3, none⟩) (by dsimp only; omega)]; exact cw3_bk_3
    have cw4_bk_l : bk < w4.heap.size := by omega
    have lWw4 : W.heap.size ≤ w4.heap.size := by omega
    have hBw4 : Below W.heap.size W w4 := hBw3.trans (bbw4.mono (by omega))
    clear zw4 bbw4 cw3_bm_0 cw3_bm_1 cw3_bm_2 cw3_bm_3 cw3_bm_l cw3_bn_0 cw3_bn_1 cw3_bn_2 cw3_bn_3 cw3_bn_l cw3_bx_0 cw3_bx_1 cw3_bx_2 cw3_bx_3 cw3_bx_l cw3_bk_0 cw3_bk_1 cw3_bk_2 cw3_bk_3 cw3_bk_l lWw3 hBw3
    clear yw4 hbg
    refine (K4.out _ hBw4).mono ?_
    rintro e w5 ⟨rfl, bw5⟩
    have zw5 : w4.heap.size ≤ w5.heap.size := bw5.size
    have cw5_bm_0 : w5.cell? ⟨bm, 0, none⟩ = some (.int .i64 m0) := by rw [bw5.cell (p := ⟨bm, 0, none⟩) (by dsimp only; omega)]; exact cw4_bm_0
    have cw5_bm_1 : w5.cell? ⟨bm, 1, none⟩ = some (.int .i64 m1) := by rw [bw5.cell (p := ⟨bm, 1, none⟩) (by dsimp only; omega)]; exact cw4_bm_1
    have cw5_bm_2 : w5.cell? ⟨bm, 2, none⟩ = some (.int .i64 m2) := by rw [bw5.cell (p := ⟨bm, 2, none⟩) (by dsimp only; omega)]; exact cw4_bm_2
    have cw5_bm_3 : w5.cell? ⟨bm, 3, none⟩ = some (.int .i64 m3) := by rw [bw5.cell (p := ⟨bm, 3, none⟩) (by dsimp only; omega)]; exact cw4_bm_3
    have cw5_bm_l : bm < w5.heap.size := by omega
    have cw5_bn_0 : w5.cell? ⟨bn, 0, none⟩ = some (.int .i64 n0) := by rw [bw5.cell (p := ⟨bn, 0, none⟩) (by dsimp only; omega)]; exact cw4_bn_0
    have cw5_bn_1 : w5.cell? ⟨bn, 1, none⟩ = some (.int .i64 n1) := by rw [bw5.cell (p := ⟨bn, 1, none⟩) (by dsimp only; omega)]; exact cw4_bn_1
    have cw5_bn_2 : w5.cell? ⟨bn, 2, none⟩ = some (.int .i64 n2) := by rw [bw5.cell (p := ⟨bn, 2, none⟩) (by dsimp only; omega)]; exact cw4_bn_2
    have cw5_bn_3 : w5.cell? ⟨bn, 3, none⟩ = some (.int .i64 n3) := by rw [bw5.cell (p := ⟨bn, 3, none⟩) (by dsimp only; omega)]; exact cw4_bn_3
    have cw5_bn_l : bn < w5.heap.size := by omega
    have cw5_bx_0 : w5.cell? ⟨bx, 0, none⟩ = some (.int .i64 x0) := by rw [bw5.cell (p := ⟨bx, 0, none⟩) (by dsimp only; omega)]; exact cw4_bx_0
    have cw5_bx_1 : w5.cell? ⟨bx, 1, none⟩ = some (.int .i64 x1) := by rw [bw5.cell (p := ⟨bx, 1, none⟩) (by dsimp only; omega)]; exact cw4_bx_1
    have cw5_bx_2 : w5.cell? ⟨bx, 2, none⟩ = some (.int .i64 x2) := by rw [bw5.cell (p := ⟨bx, 2, none⟩) (by dsimp only; omega)]; exact cw4_bx_2
    have cw5_bx_3 : w5.cell? ⟨bx, 3, none⟩ = some (.int .i64 x3) := by rw [bw5.cell (p := ⟨bx, 3, none⟩) (by dsimp only; omega)]; exact cw4_bx_3
    have cw5_bx_l : bx < w5.heap.size := by omega
    have cw5_bk_0 : w5.cell? ⟨bk, 0, none⟩ = some (.int .i64 n3) := by rw [bw5.cell (p := ⟨bk, 0, none⟩) (by dsimp only; omega)]; exact cw4_bk_0
    have cw5_bk_1 : w5.cell? ⟨bk, 1, none⟩ = some (.int .i64 (-n1)) := by rw [bw5.cell (p := ⟨bk, 1, none⟩) (by dsimp only; omega)]; exact cw4_bk_1
    have cw5_bk_2 : w5.cell? ⟨bk, 2, none⟩ = some (.int .i64 (-n2)) := by rw [bw5.cell (p := ⟨bk, 2, none⟩) (by dsimp only; omega)]; exact cw4_bk_2
    have cw5_bk_3 : w5.cell? ⟨bk, 3, none⟩ = some (.int .i64 n0) := by rw [bw5.cell (p := ⟨bk, 3, none⟩) (by dsimp only; omega)]; exact cw4_bk_3
    have cw5_bk_l : bk < w5.heap.size := by omega
    have cw5_bg_0 : w5.cell? ⟨bg, 0, none⟩ = some (.int .i64 y0) := by rw [bw5.cell (p := ⟨bg, 0, none⟩) (by dsimp only; omega)]; exact cw4_bg_0
    have cw5_bg_1 : w5.cell? ⟨bg, 1, none⟩ = some (.int .i64 y1) := by rw [bw5.cell (p := ⟨bg, 1, none⟩) (by dsimp only; omega)]; exact cw4_bg_1
    have cw5_bg_2 : w5.cell? ⟨bg, 2, none⟩ = some (.int .i64 y2) := by rw [bw5.cell (p := ⟨bg, 2, none⟩) (by dsimp only; omega)]; exact cw4_bg_2
    have cw5_bg_3 : w5.cell? ⟨bg, 3, none⟩ = some (.int .i64 y3) := by rw [bw5.cell (p := ⟨bg, 3, none⟩) (by dsimp only; omega)]; exact cw4_bg_3
    have cw5_bg_l : bg < w5.heap.size := by omega
    have lWw5 : W.heap.size ≤ w5.heap.size := by omega
    have hBw5 : Below W.heap.size W w5 := hBw4.trans (bw5.mono (by omega))
    clear zw5 bw5 cw4_bm_0 cw4_bm_1 cw4_bm_2 cw4_bm_3 cw4_bm_l cw4_bn_0 cw4_bn_1 cw4_bn_2 cw4_bn_3 cw4_bn_l cw4_bx_0 cw4_bx_1 cw4_bx_2 cw4_bx_3 cw4_bx_l cw4_bk_0 cw4_bk_1 cw4_bk_2 cw4_bk_3 cw4_bk_l cw4_bg_0 cw4_bg_1 cw4_bg_2 cw4_bg_3 cw4_bg_l lWw4 hBw4
    go_wp2_with fail
    refine (K5.out _ hBw5).mono ?_
    rintro e w6 ⟨rfl, bw6⟩
    have zw6 : w5.heap.size ≤ w6.heap.size := bw6.size
    have cw6_bm_0 : w6.cell? ⟨bm, 0, none⟩ = some (.int .i64 m0) := by rw [bw6.cell (p := ⟨bm, 0, none⟩) (by dsimp only; omega)]; exact cw5_bm_0
    have cw6_bm_1 : w6.cell? ⟨bm, 1, none⟩ = some (.int .i64 m1) := by rw [bw6.cell (p := ⟨bm, 1, none⟩) (by dsimp only; omega)]; exact cw5_bm_1
    have cw6_bm_2 : w6.cell? ⟨bm, 2, none⟩ = some (.int .i64 m2) := by rw [bw6.cell (p := ⟨bm, 2, none⟩) (by dsimp only; omega)]; exact cw5_bm_2
    have cw6_bm_3 : w6.cell? ⟨bm, 3, none⟩ = some (.int .i64 m3) := by rw [bw6.cell (p := ⟨bm, 3, none⟩) (by dsimp only; omega)]; exact cw5_bm_3
    have cw6_bm_l : bm < w6.heap.size := by omega
    have cw6_bn_0 : w6.cell? ⟨bn, 0, none⟩ = some (.int .i64 n0) := by rw [bw6.cell (p := ⟨bn, 0, none⟩) (by dsimp only; omega)]; exact cw5_bn_0
    have cw6_bn_1 : w6.cell? ⟨bn, 1, none⟩ = some (.int .i64 n1) := by rw [bw6.cell (p := ⟨bn, 1, none⟩) (by dsimp only; omega)]; exact cw5_bn_1
    have cw6_bn_2 : w6.cell? ⟨bn, 2, none⟩ = some (.int .i64 n2) := by rw [bw6.cell (p := ⟨bn, 2, none⟩) (by dsimp only; omega)]; exact cw5_bn_2
    have cw6_bn_3 : w6.cell? ⟨bn, 3, none⟩ = some (.int .i64 n3) := by rw [bw6.cell (p := ⟨bn, 3, none⟩) (by dsimp only; omega)]; exact cw5_bn_3
    have cw6_bn_l : bn < w6.heap.size := by omega
    have cw6_bx_0 : w6.cell? ⟨bx, 0, none⟩ = some (.int .i64 x0) := by rw [bw6.cell (p := ⟨bx, 0, none⟩) (by dsimp only; omega)]; exact cw5_bx_0
    have cw6_bx_1 : w6.cell? ⟨bx, 1, none⟩ = some (.int .i64 x1) := by rw [bw6.cell (p := ⟨bx, 1, none⟩) (by dsimp only; omega)]; exact cw5_bx_1
    have cw6_bx_2 : w6.cell? ⟨bx, 2, none⟩ = some (.int .i64 x2) := by rw [bw6.cell (p := ⟨bx, 2, none⟩) (by dsimp only; omega)]; exact cw5_bx_2
    have cw6_bx_3 : w6.cell? ⟨bx, 3, none⟩ = some (.int .i64 x3) := by rw [bw6.cell (p := ⟨bx, 3, none⟩) (by dsimp only; omega)]; exact cw5_bx_3
    have cw6_bx_l : bx < w6.heap.size := by omega
    have cw6_bk_0 : w6.cell? ⟨bk, 0, none⟩ = some (.int .i64 n3) := by rw [bw6.cell (p := ⟨bk, 0, none⟩) (by dsimp only; omega)]; exact cw5_bk_0
    have cw6_bk_1 : w6.cell? ⟨bk, 1, none⟩ = some (.int .i64 (-n1)) := by rw [bw6.cell (p := ⟨bk, 1, none⟩) (by dsimp only; omega)]; exact cw5_bk_1
    have cw6_bk_2 : w6.cell? ⟨bk, 2, none⟩ = some (.int .i64 (-n2)) := by rw [bw6.cell (p := ⟨bk, 2, none⟩) (by dsimp only; omega)]; exact cw5_bk_2
    have cw6_bk_3 : w6.cell? ⟨bk, 3, none⟩ = some (.int .i64 n0) := by rw [bw6.cell (p := ⟨bk, 3, none⟩) (by dsimp only; omega)]; exact cw5_bk_3
    have cw6_bk_l : bk < w6.heap.size := by omega
    have cw6_bg_0 : w6.cell? ⟨bg, 0, none⟩ = some (.int .i64 y0) := by rw [bw6.cell (p := ⟨bg, 0, none⟩) (by dsimp only; omega)]; exact cw5_bg_0
    have cw6_bg_1 : w6.cell? ⟨bg, 1, none⟩ = some (.int .i64 y1) := by rw [bw6.cell (p := ⟨bg, 1, none⟩) (by dsimp only; omega)]; exact cw5_bg_1
    have cw6_bg_2 : w6.cell? ⟨bg, 2, none⟩ = some (.int .i64 y2) := by rw [bw6.cell (p := ⟨bg, 2, none⟩) (by dsimp only; omega)]; exact cw5_bg_2
    have cw6_bg_3 : w6.cell? ⟨bg, 3, none⟩ = some (.int .i64 y3) := by rw [bw6.cell (p := ⟨bg, 3, none⟩) (by dsimp only; omega)]; exact cw5_bg_3
    have cw6_bg_l : bg < w6.heap.size := by omega
    have lWw6 : W.heap.size ≤ w6.heap.size := by omega
    have hBw6 : Below W.heap.size W w6 := hBw5.trans (bw6.mono (by omega))
    clear zw6 bw6 cw5_bm_0 cw5_bm_1 cw5_bm_2 cw5_bm_3 cw5_bm_l cw5_bn_0 cw5_bn_1 cw5_bn_2 cw5_bn_3 cw5_bn_l cw5_bx_0 cw5_bx_1 cw5_bx_2 cw5_bx_3 cw5_bx_l cw5_bk_0 cw5_bk_1 cw5_bk_2 cw5_bk_3 cw5_bk_l cw5_bg_0 cw5_bg_1 cw5_bg_2 cw5_bg_3 cw5_bg_l lWw5 hBw5
    by_cases hy4 : y4 = 0
    · obtain ⟨e0, e1, e2, e3⟩ := HY.out hy4
      subst hy4 e0 e1 e2 e3
      clear HY
      go_wp2_with fail
      exact (by repeat' (first | (with_reducible exact Below.refl _ _) | (with_reducible assumption) | (with_reducible refine below_drewN ?_ _) | (with_reducible refine Below.drew ?_) | (with_reducible refine Below.alloc ?_ ?_ _) | (with_reducible refine Below.setCell ?_ ?_ _) | (with_reducible refine Below.trans ?_ (Below.mono (by with_reducible assumption) ?_)) | go_size | (dsimp only; omega)))
    · have hy4' : (y4 == 0) = false := by simpa using hy4
      go_wp2_with fail
      exact (by repeat' (first | (with_reducible exact Below.refl _ _) | (with_reducible assumption) | (with_reducible refine below_drewN ?_ _) | (with_reducible refine Below.drew ?_) | (with_reducible refine Below.alloc ?_ ?_ _) | (with_reducible refine Below.setCell ?_ ?_ _) | (with_reducible refine Below.trans ?_ (Below.mono (by with_reducible assumption) ?_)) | go_size | (dsimp only; omega)))
  · have h1' : (x4 == 0) = false := by simpa using h1
    go_wp2_with fail
    exact (by repeat' (first | (with_reducible exact Below.refl _ _) | (with_reducible assumption) | (with_reducible refine below_drewN ?_ _) | (with_reducible refine Below.drew ?_) | (with_reducible refine Below.alloc ?_ ?_ _) | (with_reducible refine Below.setCell ?_ ?_ _) | (with_reducible refine Below.trans ?_ (Below.mono (by with_reducible assumption) ?_)) | go_size | (dsimp only; omega)))
set_option maxRecDepth 1000000 in
set_option maxHeartbeats 8000000 in
theorem sec2_c {KK : Act → World → Prop} {Q0 : Exit → Act → World → Prop} (W w : World) (hBw : Below W.heap.size W w) (lWw : W.heap.size ≤ w.heap.size) (ba bx : Nat) (a0 a1 a2 a3 x0 x1 x2 x3 x4 : Int) (HX : Hid (x4 = 0 → isM a0 a1 a2 a3 = true ∧ isM x0 x1 x2 x3 = true ∧ x0 + x3 = a0 + a3 ∧ kindOf x0 x1 x2 x3 = kindOf a0 a1 a2 a3)) (cw_ba_0 : w.cell? ⟨ba, 0, none⟩ = some (.int .i64 a0)) (cw_ba_1 : w.cell? ⟨ba, 1, none⟩ = some (.int .i64 a1)) (cw_ba_2 : w.cell? ⟨ba, 2, none⟩ = some (.int .i64 a2)) (cw_ba_3 : w.cell? ⟨ba, 3, none⟩ = some (.int .i64 a3)) (cw_bx_0 : w.cell? ⟨bx, 0, none⟩ = some (.int .i64 x0)) (cw_bx_1 : w.cell? ⟨bx, 1, none⟩ = some (.int .i64 x1)) (cw_bx_2 : w.cell? ⟨bx, 2, none⟩ = some (.int .i64 x2)) (cw_bx_3 : w.cell? ⟨bx, 3, none⟩ = some (.int .i64 x3)) (cw_ba_l : ba < w.heap.size) (cw_bx_l : bx < w.heap.size) (L0 L1 L2 L3 L4 L5 L6 L7 L8 L9 L10 L11 L12 L13 L14 L15 L16 L18 L21 L22 L23 L24 L25 L26 L27 L28 L29 L30 L31 L32 L33 L34 L35 L36 L37 L38 L39 L40 L41 L42 L43 L44 L45 L46 L47 L48 L49 L50 L51 L52 L53 L54 L55 L56 L57 L58 L59 L60 L61 L62 L63 L64 L65 L66 L67 L68 L69 L70 L71 L72 L73 L74 L75 L76 L77 L78 L79 L80 L81 L82 L83 L84 L85 L86 L87 L88 L89 L90 L91 L92 L93 L94 L95 L96 L97 L98 L99 L100 L101 L102 L103 L104 L105 L106 L107 L108 L109 L110 L111 L112 L113 L114 L115 L116 L117 L118 L119 L120 L121 L122 L123 L124 L125 L126 L127 L128 L129 L130 L131 L132 L133 L134 L135 L136 L137 L138 L139 L140 L141 L142 L143 L144 L145 L146 L147 L148 L149 L150 L151 L152 L153 L154 L155 L156 L157 L158 L159 L160 L161 L162 L163 L164 L165 L166 L167 L168 L169 L170 L171 L172 L173 L174 L176 L177 L178 L179 L180 L181 L182 L183 L184 L185 L186 L187 L188 L189 L190 L191 L192 L193 L194 L195 L196 L197 L198 L199 L200 L201 L202 L203 L204 L205 L206 L207 L208 L209 L210 L211 L212 L213 L214 L215 L216 L217 L218 L219 L220 L221 L222 L223 L224 L225 L226 L227 L228 L229 L230 L231 L232 L233 L234 L235 L236 L237 L238 L239 L240 L241 L242 L243 L244 L245 L246 L247 L248 L249 L250 L251 L252 L253 L254 L255 L256 L257 L258 L259 L260 L261 L262 L263 L264 L265 L266 L267 L268 L269 L270 L271 L272 L273 L274 L275 L276 L277 L278 L279 L280 L281 L282 L283 L284 L285 L286 L287 L288 L289 L290 L291 L292 L293 L294 L295 L296 L297 L298 L299 L300 L301 L302 L303 L304 L305 L306 L307 L308 L309 L310 L311 L312 L313 L314 L315 L316 L317 L318 L319 L320 L321 L322 L323 L324 L325 L326 L327 L328 L329 L330 L331 L332 L333 L334 L335 L336 L337 L338 L339 L340 L341 L342 L343 L344 L345 L346 L347 L348 L349 L350 L351 L352 L353 L354 L355 L356 L357 L358 L359 L360 L361 L362 L363 L364 L365 L366 L367 L368 L369 L370 L371 L372 L373 L374 L375 L376 L377 L378 L379 L380 L381 L382 L383 L384 L385 L386 L387 L388 L389 L390 L391 L392 L393 L394 L395 L396 L397 L398 L399 L400 L401 L402 L403 L404 L405 L406 L407 L408 L409 L410 L411 L412 L413 L414 : Value)
    (hfin : ∀ (v23 v24 v25 v26 v27 v28 v29 v30 v176 v177 v178 v179 v180 v181 v182 v183 v184 v185 v186 v187 v188 v189 v190 v191 v192 v193 v194 v195 v196 v197 v198 v199 v200 v201 v202 v203 v204 v205 v206 v207 v208 v209 v210 v211 v212 v213 v214 v215 v216 v217 v218 v219 : Value) (wx : World), (Below W.heap.size W wx) → KK ⟨#[L0, L1, L2, L3, L4, L5, L6, L7, L8, L9, L10, L11, L12, L13, L14, L15, L16, .pointer (some ⟨ba, 0, none⟩), L18, .pointer (some ⟨bx, 0, none⟩), .int .i64 x4, L21, L22, v23, v24, v25, v26, v27, v28, v29, v30, L31, L32, L33, L34, L35, L36, L37, L38, L39, L40, L41, L42, L43, L44, L45, L46, L47, L48, L49, L50, L51, L52, L53, L54, L55, L56, L57, L58, L59, L60, L61, L62, L63, L64, L65, L66, L67, L68, L69, L70, L71, L72, L73, L74, L75, L76, L77, L78, L79, L80, L81, L82, L83, L84, L85, L86, L87, L88, L89, L90, L91, L92, L93, L94, L95, L96, L97, L98, L99, L100, L101, L102, L103, L104, L105, L106, L107, L108, L109, L110, L111, L112, L113, L114, L115, L116, L117, L118, L119, L120, L121, L122, L123, L124, L125, L126, L127, L128, L129, L130, L131, L132, L133, L134, L135, L136, L137, L138, L139, L140, L141, L142, L143, L144, L145, L146, L147, L148, L149, L150, L151, L152, L153, L154, L155, L156, L157, L158, L159, L160, L161, L162, L163, L164, L165, L166, L167, L168, L169, L170, L171, L172, L173, L174, .bool (x4 == 0), v176, v177, v178, v179, v180, v181, v182, v183, v184, v185, v186, v187, v188, v189, v190, v191, v192, v193, v194, v195, v196, v197, v198, v199, v200, v201, v202, v203, v204, v205, v206, v207, v208, v209, v210, v211, v212, v213, v214, v215, v216, v217, v218, v219, L220, L221, L222, L223, L224, L225, L226, L227, L228, L229, L230, L231, L232, L233, L234, L235, L236, L237, L238, L239, L240, L241, L242, L243, L244, L245, L246, L247, L248, L249, L250, L251, L252, L253, L254, L255, L256, L257, L258, L259, L260, L261, L262, L263, L264, L265, L266, L267, L268, L269, L270, L271, L272, L273, L274, L275, L276, L277, L278, L279, L280, L281, L282, L283, L284, L285, L286, L287, L288, L289, L290, L291, L292, L293, L294, L295, L296, L297, L298, L299, L300, L301, L302, L303, L304, L305, L306, L307, L308, L309, L310, L311, L312, L313, L314, L315, L316, L317, L318, L319, L320, L321, L322, L323, L324, L325, L326, L327, L328, L329, L330, L331, L332, L333, L334, L335, L336, L337, L338, L339, L340, L341, L342, L343, L344, L345, L346, L347, L348, L349, L350, L351, L352, L353, L354, L355, L356, L357, L358, L359, L360, L361, L362, L363, L364, L365, L366, L367, L368, L369, L370, L371, L372, L373, L374, L375, L376, L377, L378, L379, L380, L381, L382, L383, L384, L385, L386, L387, L388, L389, L390, L391, L392, L393, L394, L395, L396, L397, L398, L399, L400, L401, L402, L403, L404, L405, L406, L407, L408, L409, L410, L411, L412, L413, L414], []⟩ wx) :
    Code.wp Tryz.prog ((Tryz.f4.body.bind (condOf 175)).getD .skip) (Exit.then KK Q0) ⟨#[L0, L1, L2, L3, L4, L5, L6, L7, L8, L9, L10, L11, L12, L13, L14, L15, L16, .pointer (some ⟨ba, 0, none⟩), L18, .pointer (some ⟨bx, 0, none⟩), .int .i64 x4, L21, L22, L23, L24, L25, L26, L27, L28, L29, L30, L31, L32, L33, L34, L35, L36, L37, L38, L39, L40, L41, L42, L43, L44, L45, L46, L47, L48, L49, L50, L51, L52, L53, L54, L55, L56, L57, L58, L59, L60, L61, L62, L63, L64, L65, L66, L67, L68, L69, L70, L71, L72, L73, L74, L75, L76, L77, L78, L79, L80, L81, L82, L83, L84, L85, L86, L87, L88, L89, L90, L91, L92, L93, L94, L95, L96, L97, L98, L99, L100, L101, L102, L103, L104, L105, L106, L107, L108, L109, L110, L111, L112, L113, L114, L115, L116, L117, L118, L119, L120, L121, L122, L123, L124, L125, L126, L127, L128, L129, L130, L131, L132, L133, L134, L135, L136, L137, L138, L139, L140, L141, L142, L143, L144, L145, L146, L147, L148, L149, L150, L151, L152, L153, L154, L155, L156, L157, L158, L159, L160, L161, L162, L163, L164, L165, L166, L167, L168, L169, L170, L171, L172, L173, L174, .bool (x4 == 0), L176, L177, L178, L179, L180, L181, L182, L183, L184, L185, L186, L187, L188, L189, L190, L191, L192, L193, L194, L195, L196, L197, L198, L199, L200, L201, L202, L203, L204, L205, L206, L207, L208, L209, L210, L211, L212, L213, L214, L215, L216, L217, L218, L219, L220, L221, L222, L223, L224, L225, L226, L227, L228, L229, L230, L231, L232, L233, L234, L235, L236, L237, L238, L239, L240, L241, L242, L243, L244, L245, L246, L247, L248, L249, L250, L251, L252, L253, L254, L255, L256, L257, L258, L259, L260, L261, L262, L263, L264, L265, L266, L267, L268, L269, L270, L271, L272, L273, L274, L275, L276, L277, L278, L279, L280, L281, L282, L283, L284, L285, L286, L287, L288, L289, L290, L291, L292, L293, L294, L295, L296, L297, L298, L299, L300, L301, L302, L303, L304, L305, L306, L307, L308, L309, L310, L311, L312, L313, L314, L315, L316, L317, L318, L319, L320, L321, L322, L323, L324, L325, L326, L327, L328, L329, L330, L331, L332, L333, L334, L335, L336, L337, L338, L339, L340, L341, L342, L343, L344, L345, L346, L347, L348, L349, L350, L351, L352, L353, L354, L355, L356, L357, L358, L359, L360, L361, L362, L363, L364, L365, L366, L367, L368, L369, L370, L371, L372, L373, L374, L375, L376, L377, L378, L379, L380, L381, L382, L383, L384, L385, L386, L387, L388, L389, L390, L391, L392, L393, L394, L395, L396, L397, L398, L399, L400, L401, L402, L403, L404, L405, L406, L407, L408, L409, L410, L411, L412, L413, L414], []⟩ w := by
  conv => arg 2; whnf
  by_cases h1 : x4 = 0
  · obtain ⟨hA, hX, ht, hk⟩ := HX.out h1
    subst h1
    obtain ⟨tr, htr⟩ : ∃ tr, a0 + a3 = tr := ⟨_, rfl⟩
    obtain ⟨kd, hkd⟩ : ∃ kd, kindOf a0 a1 a2 a3 = kd := ⟨_, rfl⟩
    have K3 : Hid (RetT 47 #[.agg #[.int .i64 a0, .int .i64 a1, .int .i64 a2, .int .i64 a3]] (.tuple #[.int .i64 tr, .int .i64 0])) := Lib.hid (by rw [← htr]; exact fun w => TraceOf_yes _ _ _ _ w hA)
    have K4 : Hid (RetT 47 #[.agg #[.int .i64 x0, .int .i64 x1, .int .i64 x2, .int .i64 x3]] (.tuple #[.int .i64 tr, .int .i64 0])) := Lib.hid (by rw [← htr, ← ht]; exact fun w => TraceOf_yes _ _ _ _ w hX)
    have K5 : Hid (RetT 17 #[.agg #[.int .i64 a0, .int .i64 a1, .int .i64 a2, .int .i64 a3]] (.tuple #[.int .i64 kd, .int .i64 0])) := Lib.hid (by rw [← hkd]; exact fun w => KindOf_yes _ _ _ _ w hA)
    have K6 : Hid (RetT 17 #[.agg #[.int .i64 x0, .int .i64 x1, .int .i64 x2, .int .i64 x3]] (.tuple #[.int .i64 kd, .int .i64 0])) := Lib.hid (by rw [← hkd, ← hk]; exact fun w => KindOf_yes _ _ _ _ w hX)
    clear hA hX ht hk htr hkd
    go_wp2_with fail
    refine (K3.out.get _).mono ?_
    rintro e w1 ⟨rfl, bw1⟩
    have zw1 : w.heap.size ≤ w1.heap.size := bw1.size
    have cw1_ba_0 : w1.cell? ⟨ba, 0, none⟩ = some (.int .i64 a0) := by rw [bw1.cell (p := ⟨ba, 0, none⟩) (by dsimp only; omega)]; exact cw_ba_0
    have cw1_ba_1 : w1.cell? ⟨ba, 1, none⟩ = some (.int .i64 a1) := by rw [bw1.cell (p := ⟨ba, 1, none⟩) (by dsimp only; omega)]; exact cw_ba_1
    have cw1_ba_2 : w1.cell? ⟨ba, 2, none⟩ = some (.int .i64 a2) := by rw [bw1.cell (p := ⟨ba, 2, none⟩) (by dsimp only; omega)]; exact cw_ba_2
    have cw1_ba_3 : w1.cell? ⟨ba, 3, none⟩ = some (.int .i64 a3) := by rw [bw1.cell (p := ⟨ba, 3, none⟩) (by dsimp only; omega)]; exact cw_ba_3
    have cw1_ba_l : ba < w1.heap.size := by omega
    have cw1_bx_0 : w1.cell? ⟨bx, 0, none⟩ = some (.int .i64 x0) := by rw [bw1.cell (p := ⟨bx, 0, none⟩) (by dsimp only; omega)]; exact cw_bx_0
    have cw1_bx_1 : w1.cell? ⟨bx, 1, none⟩ = some (.int .i64 x1) := by rw [bw1.cell (p := ⟨bx, 1, none⟩) (by dsimp only; omega)]; exact cw_bx_1
    have cw1_bx_2 : w1.cell? ⟨bx, 2, none⟩ = some (.int .i64 x2) := by rw [bw1.cell (p := ⟨bx, 2, none⟩) (by dsimp only; omega)]; exact cw_bx_2
    have cw1_bx_3 : w1.cell? ⟨bx, 3, none⟩ = some (.int .i64 x3) := by rw [bw1.cell (p := ⟨bx, 3, none⟩) (by dsimp only; omega)]; exact cw_bx_3
    have cw1_bx_l : bx < w1.heap.size := by omega
    have lWw1 : W.heap.size ≤ w1.heap.size := by omega
    have hBw1 : Below W.heap.size W w1 := hBw.trans (bw1.mono (by omega))
    clear zw1 bw1 cw_ba_0 cw_ba_1 cw_ba_2 cw_ba_3 cw_ba_l cw_bx_0 cw_bx_1 cw_bx_2 cw_bx_3 cw_bx_l lWw hBw
    go_wp2_with fail
    refine (K4.out.get _).mono ?_
    rintro e w2 ⟨rfl, bw2⟩
    have zw2 : w1.heap.size ≤ w2.heap.size := bw2.size
    have cw2_ba_0 : w2.cell? ⟨ba, 0, none⟩ = some (.int .i64 a0) := by rw [bw2.cell (p := ⟨ba, 0, none⟩) (by dsimp only; omega)]; exact cw1_ba_0
    have cw2_ba_1 : w2.cell? ⟨ba, 1, none⟩ = some (.int .i64 a1) := by rw [bw2.cell (p := ⟨ba, 1, none⟩) (by dsimp only; omega)]; exact cw1_ba_1
    have cw2_ba_2 : w2.cell? ⟨ba, 2, none⟩ = some (.int .i64 a2) := by rw [bw2.cell (p := ⟨ba, 2, none⟩) (by dsimp only; omega)]; exact cw1_ba_2
    have cw2_ba_3 : w2.cell? ⟨ba, 3, none⟩ = some (.int .i64 a3) := by rw [bw2.cell (p := ⟨ba, 3, none⟩) (by dsimp only; omega)]; exact cw1_ba_3
    have cw2_ba_l : ba < w2.heap.size := by omega
    have cw2_bx_0 : w2.cell? ⟨bx, 0, none⟩ = some (.int .i64 x0) := by rw [bw2.cell (p := ⟨bx, 0, none⟩) (by dsimp only; omega)]; exact cw1_bx_0
    have cw2_bx_1 : w2.cell? ⟨bx, 1, none⟩ = some (.int .i64 x1) := by rw [bw2.cell (p := ⟨bx, 1, none⟩) (by dsimp only; omega)]; exact cw1_bx_1
    have cw2_bx_2 : w2.cell? ⟨bx, 2, none⟩ = some (.int .i64 x2) := by rw [bw2.cell (p := ⟨bx, 2, none⟩) (by dsimp only; omega)]; exact cw1_bx_2
    have cw2_bx_3 : w2.cell? ⟨bx, 3, none⟩ = some (.int .i64 x3) := by rw [bw2.cell (p := ⟨bx, 3, none⟩) (by dsimp only; omega)]; exact cw1_bx_3
    have cw2_bx_l : bx < w2.heap.size := by omega
    have lWw2 : W.heap.size ≤ w2.heap.size := by omega
    have hBw2 : Below W.heap.size W w2 := hBw1.trans (bw2.mono (by omega))
    clear zw2 bw2 cw1_ba_0 cw1_ba_1 cw1_ba_2 cw1_ba_3 cw1_ba_l cw1_bx_0 cw1_bx_1 cw1_bx_2 cw1_bx_3 cw1_bx_l lWw1 hBw1
    go_wp2_with fail
    refine (K5.out.get _).mono ?_
    rintro e w3 ⟨rfl, bw3⟩
    have zw3 : w2.heap.size ≤ w3.heap.size := bw3.size
    have cw3_ba_0 : w3.cell? ⟨ba, 0, none⟩ = some (.int .i64 a0) := by rw [bw3.cell (p := ⟨ba, 0, none⟩) (by dsimp only; omega)]; exact cw2_ba_0
    have cw3_ba_1 : w3.cell? ⟨ba, 1, none⟩ = some (.int .i64 a1) := by rw [bw3.cell (p := ⟨ba, 1, none⟩) (by dsimp only; omega)]; exact cw2_ba_1
    have cw3_ba_2 : w3.cell? ⟨ba, 2, none⟩ = some (.int .i64 a2) := by rw [bw3.cell (p := ⟨ba, 2, none⟩) (by dsimp only; omega)]; exact cw2_ba_2
    have cw3_ba_3 : w3.cell? ⟨ba, 3, none⟩ = some (.int .i64 a3) := by rw [bw3.cell (p := ⟨ba, 3, none⟩) (by dsimp only; omega)]; exact cw2_ba_3
    have cw3_ba_l : ba < w3.heap.size := by omega
    have cw3_bx_0 : w3.cell? ⟨bx, 0, none⟩ = some (.int .i64 x0) := by rw [bw3.cell (p := ⟨bx, 0, none⟩) (by dsimp only; omega)]; exact cw2_bx_0
    have cw3_bx_1 : w3.cell? ⟨bx, 1, none⟩ = some (.int .i64 x1) := by rw [bw3.cell (p := ⟨bx, 1, none⟩) (by dsimp only; omega)]; exact cw2_bx_1
    have cw3_bx_2 : w3.cell? ⟨bx, 2, none⟩ = some (.int .i64 x2) := by rw [bw3.cell (p := ⟨bx, 2, none⟩) (by dsimp only; omega)]; exact cw2_bx_2
    have cw3_bx_3 : w3.cell? ⟨bx, 3, none⟩ = some (.int .i64 x3) := by rw [bw3.cell (p := ⟨bx, 3, none⟩) (by dsimp only; omega)]; exact cw2_bx_3
    have cw3_bx_l : bx < w3.heap.size := by omega
    have lWw3 : W.heap.size ≤ w3.heap.size := by omega
    have hBw3 : Below W.heap.size W w3 := hBw2.trans (bw3.mono (by omega))
    clear zw3 bw3 cw2_ba_0 cw2_ba_1 cw2_ba_2 cw2_ba_3 cw2_ba_l cw2_bx_0 cw2_bx_1 cw2_bx_2 cw2_bx_3 cw2_bx_l lWw2 hBw2
    go_wp2_with fail
    refine (K6.out.get _).mono ?_
    rintro e w4 ⟨rfl, bw4⟩
    have zw4 : w3.heap.size ≤ w4.heap.size := bw4.size
    have cw4_ba_0 : w4.cell? ⟨ba, 0, none⟩ = some (.int .i64 a0) := by rw [bw4.cell (p := ⟨ba, 0, none⟩) (by dsimp only; omega)]; exact cw3_ba_0
    have cw4_ba_1 : w4.cell? ⟨ba, 1, none⟩ = some (.int .i64 a1) := by rw [bw4.cell (p := ⟨ba, 1, none⟩) (by dsimp only; omega)]; exact cw3_ba_1
    have cw4_ba_2 : w4.cell? ⟨ba, 2, none⟩ = some (.int .i64 a2) := by rw [bw4.cell (p := ⟨ba, 2, none⟩) (by dsimp only; omega)]; exact cw3_ba_2
    have cw4_ba_3 : w4.cell? ⟨ba, 3, none⟩ = some (.int .i64 a3) := by rw [bw4.cell (p := ⟨ba, 3, none⟩) (by dsimp only; omega)]; exact cw3_ba_3
    have cw4_ba_l : ba < w4.heap.size := by omega
    have cw4_bx_0 : w4.cell? ⟨bx, 0, none⟩ = some (.int .i64 x0) := by rw [bw4.cell (p := ⟨bx, 0, none⟩) (by dsimp only; omega)]; exact cw3_bx_0
    have cw4_bx_1 : w4.cell? ⟨bx, 1, none⟩ = some (.int .i64 x1) := by rw [bw4.cell (p := ⟨bx, 1, none⟩) (by dsimp only; omega)]; exact cw3_bx_1
    have cw4_bx_2 : w4.cell? ⟨bx, 2, none⟩ = some (.int .i64 x2) := by rw [bw4.cell (p := ⟨bx, 2, none⟩) (by dsimp only; omega)]; exact cw3_bx_2
    have cw4_bx_3 : w4.cell? ⟨bx, 3, none⟩ = some (.int .i64 x3) := by rw [bw4.cell (p := ⟨bx, 3, none⟩) (by dsimp only; omega)]; exact cw3_bx_3
    have cw4_bx_l : bx < w4.heap.size := by omega
    have lWw4 : W.heap.size ≤ w4.heap.size := by omega
    have hBw4 : Below W.heap.size W w4 := hBw3.trans (bw4.mono (by omega))
    clear zw4 bw4 cw3_ba_0 cw3_ba_1 cw3_ba_2 cw3_ba_3 cw3_ba_l cw3_bx_0 cw3_bx_1 cw3_bx_2 cw3_bx_3 cw3_bx_l lWw3 hBw3
    go_wp2_with fail
    exact (by repeat' (first | (with_reducible exact Below.refl _ _) | (with_reducible assumption) | (with_reducible refine below_drewN ?_ _) | (with_reducible refine Below.drew ?_) | (with_reducible refine Below.alloc ?_ ?_ _) | (with_reducible refine Below.setCell ?_ ?_ _) | (with_reducible refine Below.trans ?_ (Below.mono (by with_reducible assumption) ?_)) | go_size | (dsimp only; omega)))
  · have h1' : (x4 == 0) = false := by simpa using h1
    go_wp2_with fail
    exact (by repeat' (first | (with_reducible exact Below.refl _ _) | (with_reducible assumption) | (with_reducible refine below_drewN ?_ _) | (with_reducible refine Below.drew ?_) | (with_reducible refine Below.alloc ?_ ?_ _) | (with_reducible refine Below.setCell ?_ ?_ _) | (with_reducible refine Below.trans ?_ (Below.mono (by with_reducible assumption) ?_)) | go_size | (dsimp only; omega)))
set_option maxRecDepth 1000000 in
set_option maxHeartbeats 8000000 in
theorem reg3_c {KK : Act → World → Prop} {Q0 : Exit → Act → World → Prop} (W w : World) (hBw : Below W.heap.size W w) (lWw : W.heap.size ≤ w.heap.size) (x4 k : Int)   (L0 L1 L2 L3 L4 L5 L6 L7 L8 L9 L10 L11 L12 L13 L14 L15 L16 L17 L18 L19 L20 L21 L22 L23 L24 L25 L26 L27 L28 L29 L30 L31 L33 L35 L36 L37 L38 L39 L40 L41 L42 L43 L44 L45 L46 L47 L48 L49 L50 L51 L52 L53 L54 L55 L56 L57 L58 L59 L60 L61 L62 L63 L64 L65 L66 L67 L68 L69 L70 L71 L72 L73 L74 L75 L76 L77 L78 L79 L80 L81 L82 L83 L84 L85 L86 L87 L88 L89 L90 L91 L92 L93 L94 L95 L96 L97 L98 L99 L100 L101 L102 L103 L104 L105 L106 L107 L108 L109 L110 L111 L112 L113 L114 L115 L116 L117 L118 L119 L120 L121 L122 L123 L124 L125 L126 L127 L128 L129 L130 L131 L132 L133 L134 L135 L136 L137 L138 L139 L140 L141 L142 L143 L144 L145 L146 L147 L148 L149 L150 L151 L152 L153 L154 L155 L156 L157 L158 L159 L160 L161 L162 L163 L164 L165 L166 L167 L168 L169 L170 L171 L172 L173 L174 L175 L176 L177 L178 L179 L180 L181 L182 L183 L184 L185 L186 L187 L188 L189 L190 L191 L192 L193 L194 L195 L196 L197 L198 L199 L200 L201 L202 L203 L204 L205 L206 L207 L208 L209 L210 L211 L212 L213 L214 L215 L216 L217 L218 L219 L220 L221 L222 L223 L224 L225 L226 L227 L228 L229 L230 L231 L232 L233 L234 L235 L236 L237 L238 L239 L240 L241 L242 L243 L244 L245 L246 L247 L248 L249 L250 L251 L252 L253 L254 L255 L256 L257 L258 L259 L260 L261 L262 L263 L264 L265 L266 L267 L268 L269 L270 L271 L272 L273 L274 L275 L276 L277 L278 L279 L280 L281 L282 L283 L284 L285 L286 L287 L288 L289 L290 L291 L292 L293 L294 L295 L296 L297 L298 L299 L300 L301 L302 L303 L304 L305 L306 L307 L308 L309 L310 L311 L312 L313 L314 L315 L316 L317 L318 L319 L320 L321 L322 L323 L324 L325 L326 L327 L328 L329 L330 L331 L332 L333 L334 L335 L336 L337 L338 L339 L340 L341 L342 L343 L344 L345 L346 L347 L348 L349 L350 L351 L352 L353 L354 L355 L356 L357 L358 L359 L360 L361 L362 L363 L364 L365 L366 L367 L368 L369 L370 L371 L372 L373 L374 L375 L376 L377 L378 L379 L380 L381 L382 L383 L384 L385 L386 L387 L388 L389 L390 L391 L392 L393 L394 L395 L396 L397 L398 L399 L400 L401 L402 L403 L404 L405 L406 L407 L408 L409 L410 L411 L412 L413 L414 : Value)
    (hfin : ∀ (q : Bool) (v245 v246 v247 v248 v249 : Value) (wx : World), (Below w.heap.size w wx ∧ (q = true → x4 = 0 ∧ 0 < k)) → KK ⟨#[L0, L1, L2, L3, L4, L5, L6, L7, L8, L9, L10, L11, L12, L13, L14, L15, L16, L17, L18, L19, L20, L21, L22, L23, L24, L25, L26, L27, L28, L29, L30, L31, .int .i64 k, L33, .int .i64 x4, L35, L36, L37, L38, L39, L40, L41, L42, L43, L44, L45, L46, L47, L48, L49, L50, L51, L52, L53, L54, L55, L56, L57, L58, L59, L60, L61, L62, L63, L64, L65, L66, L67, L68, L69, L70, L71, L72, L73, L74, L75, L76, L77, L78, L79, L80, L81, L82, L83, L84, L85, L86, L87, L88, L89, L90, L91, L92, L93, L94, L95, L96, L97, L98, L99, L100, L101, L102, L103, L104, L105, L106, L107, L108, L109, L110, L111, L112, L113, L114, L115, L116, L117, L118, L119, L120, L121, L122, L123, L124, L125, L126, L127, L128, L129, L130, L131, L132, L133, L134, L135, L136, L137, L138, L139, L140, L141, L142, L143, L144, L145, L146, L147, L148, L149, L150, L151, L152, L153, L154, L155, L156, L157, L158, L159, L160, L161, L162, L163, L164, L165, L166, L167, L168, L169, L170, L171, L172, L173, L174, L175, L176, L177, L178, L179, L180, L181, L182, L183, L184, L185, L186, L187, L188, L189, L190, L191, L192, L193, L194, L195, L196, L197, L198, L199, L200, L201, L202, L203, L204, L205, L206, L207, L208, L209, L210, L211, L212, L213, L214, L215, L216, L217, L218, L219, L220, L221, L222, L223, L224, L225, L226, L227, L228, L229, L230, L231, L232, L233, L234, L235, L236, L237, L238, L239, L240, L241, L242, L243, L244, v245, v246, v247, v248, v249, .bool q, L251, L252, L253, L254, L255, L256, L257, L258, L259, L260, L261, L262, L263, L264, L265, L266, L267, L268, L269, L270, L271, L272, L273, L274, L275, L276, L277, L278, L279, L280, L281, L282, L283, L284, L285, L286, L287, L288, L289, L290, L291, L292, L293, L294, L295, L296, L297, L298, L299, L300, L301, L302, L303, L304, L305, L306, L307, L308, L309, L310, L311, L312, L313, L314, L315, L316, L317, L318, L319, L320, L321, L322, L323, L324, L325, L326, L327, L328, L329, L330, L331, L332, L333, L334, L335, L336, L337, L338, L339, L340, L341, L342, L343, L344, L345, L346, L347, L348, L349, L350, L351, L352, L353, L354, L355, L356, L357, L358, L359, L360, L361, L362, L363, L364, L365, L366, L367, L368, L369, L370, L371, L372, L373, L374, L375, L376, L377, L378, L379, L380, L381, L382, L383, L384, L385, L386, L387, L388, L389, L390, L391, L392, L393, L394, L395, L396, L397, L398, L399, L400, L401, L402, L403, L404, L405, L406, L407, L408, L409, L410, L411, L412, L413, L414], []⟩ wx) :
    Code.wp Tryz.prog ((Tryz.f4.body.bind (regionOf 32)).getD .skip) (Exit.then KK Q0) ⟨#[L0, L1, L2, L3, L4, L5, L6, L7, L8, L9, L10, L11, L12, L13, L14, L15, L16, L17, L18, L19, L20, L21, L22, L23, L24, L25, L26, L27, L28, L29, L30, L31, .int .i64 k, L33, .int .i64 x4, L35, L36, L37, L38, L39, L40, L41, L42, L43, L44, L45, L46, L47, L48, L49, L50, L51, L52, L53, L54, L55, L56, L57, L58, L59, L60, L61, L62, L63, L64, L65, L66, L67, L68, L69, L70, L71, L72, L73, L74, L75, L76, L77, L78, L79, L80, L81, L82, L83, L84, L85, L86, L87, L88, L89, L90, L91, L92, L93, L94, L95, L96, L97, L98, L99, L100, L101, L102, L103, L104, L105, L106, L107, L108, L109, L110, L111, L112, L113, L114, L115, L116, L117, L118, L119, L120, L121, L122, L123, L124, L125, L126, L127, L128, L129, L130, L131, L132, L133, L134, L135, L136, L137, L138, L139, L140, L141, L142, L143, L144, L145, L146, L147, L148, L149, L150, L151, L152, L153, L154, L155, L156, L157, L158, L159, L160, L161, L162, L163, L164, L165, L166, L167, L168, L169, L170, L171, L172, L173, L174, L175, L176, L177, L178, L179, L180, L181, L182, L183, L184, L185, L186, L187, L188, L189, L190, L191, L192, L193, L194, L195, L196, L197, L198, L199, L200, L201, L202, L203, L204, L205, L206, L207, L208, L209, L210, L211, L212, L213, L214, L215, L216, L217, L218, L219, L220, L221, L222, L223, L224, L225, L226, L227, L228, L229, L230, L231, L232, L233, L234, L235, L236, L237, L238, L239, L240, L241, L242, L243, L244, L245, L246, L247, L248, L249, L250, L251, L252, L253, L254, L255, L256, L257, L258, L259, L260, L261, L262, L263, L264, L265, L266, L267, L268, L269, L270, L271, L272, L273, L274, L275, L276, L277, L278, L279, L280, L281, L282, L283, L284, L285, L286, L287, L288, L289, L290, L291, L292, L293, L294, L295, L296, L297, L298, L299, L300, L301, L302, L303, L304, L305, L306, L307, L308, L309, L310, L311, L312, L313, L314, L315, L316, L317, L318, L319, L320, L321, L322, L323, L324, L325, L326, L327, L328, L329, L330, L331, L332, L333, L334, L335, L336, L337, L338, L339, L340, L341, L342, L343, L344, L345, L346, L347, L348, L349, L350, L351, L352, L353, L354, L355, L356, L357, L358, L359, L360, L361, L362, L363, L364, L365, L366, L367, L368, L369, L370, L371, L372, L373, L374, L375, L376, L377, L378, L379, L380, L381, L382, L383, L384, L385, L386, L387, L388, L389, L390, L391, L392, L393, L394, L395, L396, L397, L398, L399, L400, L401, L402, L403, L404, L405, L406, L407, L408, L409, L410, L411, L412, L413, L414], []⟩ w := by
  conv => arg 2; whnf
  by_cases h1 : x4 = 0
  · subst h1
    by_cases h2 : 0 < k
    · have h2' : decide (0 < k) = true := decide_eq_true h2
      go_wp2_with fail
      first | (exact ⟨(by repeat' (first | (with_reducible exact Below.refl _ _) | (with_reducible assumption) | (with_reducible refine below_drewN ?_ _) | (with_reducible refine Below.drew ?_) | (with_reducible refine Below.alloc ?_ ?_ _) | (with_reducible refine Below.setCell ?_ ?_ _) | (with_reducible refine Below.trans ?_ (Below.mono (by with_reducible assumption) ?_)) | go_size | (dsimp only; omega))), fun _ => ⟨rfl, h2⟩⟩) | exact (by repeat' (first | (with_reducible exact Below.refl _ _) | (with_reducible assumption) | (with_reducible refine below_drewN ?_ _) | (with_reducible refine Below.drew ?_) | (with_reducible refine Below.alloc ?_ ?_ _) | (with_reducible refine Below.setCell ?_ ?_ _) | (with_reducible refine Below.trans ?_ (Below.mono (by with_reducible assumption) ?_)) | go_size | (dsimp only; omega)))
    · have h2' : decide (0 < k) = false := decide_eq_false h2
      go_wp2_with fail
      first | (exact ⟨(by repeat' (first | (with_reducible exact Below.refl _ _) | (with_reducible assumption) | (with_reducible refine below_drewN ?_ _) | (with_reducible refine Below.drew ?_) | (with_reducible refine Below.alloc ?_ ?_ _) | (with_reducible refine Below.setCell ?_ ?_ _) | (with_reducible refine Below.trans ?_ (Below.mono (by with_reducible assumption) ?_)) | go_size | (dsimp only; omega))), fun h => by cases h⟩) | exact (by repeat' (first | (with_reducible exact Below.refl _ _) | (with_reducible assumption) | (with_reducible refine below_drewN ?_ _) | (with_reducible refine Below.drew ?_) | (with_reducible refine Below.alloc ?_ ?_ _) | (with_reducible refine Below.setCell ?_ ?_ _) | (with_reducible refine Below.trans ?_ (Below.mono (by with_reducible assumption) ?_)) | go_size | (dsimp only; omega)))
  · have h1' : (x4 == 0) = false := by simpa using h1
    go_wp2_with fail
    first | (exact ⟨(by repeat' (first | (with_reducible exact Below.refl _ _) | (with_reducible assumption) | (with_reducible refine below_drewN ?_ _) | (with_reducible refine Below.drew ?_) | (with_reducible refine Below.alloc ?_ ?_ _) | (with_reducible refine Below.setCell ?_ ?_ _) | (with_reducible refine Below.trans ?_ (Below.mono (by with_reducible assumption) ?_)) | go_size | (dsimp only; omega))), fun h => by cases h⟩) | exact (by repeat' (first | (with_reducible exact Below.refl _ _) | (with_reducible assumption) | (with_reducible refine below_drewN ?_ _) | (with_reducible refine Below.drew ?_) | (with_reducible refine Below.alloc ?_ ?_ _) | (with_reducible refine Below.setCell ?_ ?_ _) | (with_reducible refine Below.trans ?_ (Below.mono (by with_reducible assumption) ?_)) | go_size | (dsimp only; omega)))
set_option maxRecDepth 1000000 in
set_option maxHeartbeats 8000000 in
theorem sec3_c {KK : Act → World → Prop} {Q0 : Exit → Act → World → Prop} (W w : World) (hBw : Below W.heap.size W w) (lWw : W.heap.size ≤ w.heap.size) (bc bx : Nat) (c0 c1 c2 c3 k x0 x1 x2 x3 x4 : Int) (q : Bool) (hk0 : -1000000 ≤ k) (hk1 : k ≤ 1000001) (HQ : Hid (q = true → x4 = 0 ∧ 0 < k)) (HX : Hid (x4 = 0 → 0 < k → ∃ y0 y1 y2 y3 : Int, Hid (RetT 49 #[.agg #[.int .i64 c0, .int .i64 c1, .int .i64 c2, .int .i64 c3], .int .i64 (k - 1)] (.tuple #[.agg #[.int .i64 y0, .int .i64 y1, .int .i64 y2, .int .i64 y3], .int .i64 0])) ∧ Hid (RetT 38 #[.agg #[.int .i64 y0, .int .i64 y1, .int .i64 y2, .int .i64 y3], .agg #[.int .i64 c0, .int .i64 c1, .int .i64 c2, .int .i64 c3]] (.tuple #[.agg #[.int .i64 x0, .int .i64 x1, .int .i64 x2, .int .i64 x3], .int .i64 0])))) (cw_bc_0 : w.cell? ⟨bc, 0, none⟩ = some (.int .i64 c0)) (cw_bc_1 : w.cell? ⟨bc, 1, none⟩ = some (.int .i64 c1)) (cw_bc_2 : w.cell? ⟨bc, 2, none⟩ = some (.int .i64 c2)) (cw_bc_3 : w.cell? ⟨bc, 3, none⟩ = some (.int .i64 c3)) (cw_bx_0 : w.cell? ⟨bx, 0, none⟩ = some (.int .i64 x0)) (cw_bx_1 : w.cell? ⟨bx, 1, none⟩ = some (.int .i64 x1)) (cw_bx_2 : w.cell? ⟨bx, 2, none⟩ = some (.int .i64 x2)) (cw_bx_3 : w.cell? ⟨bx, 3, none⟩ = some (.int .i64 x3)) (cw_bc_l : bc < w.heap.size) (cw_bx_l : bx < w.heap.size) (L0 L1 L2 L3 L4 L5 L6 L7 L8 L9 L10 L11 L12 L13 L14 L15 L16 L17 L18 L19 L20 L21 L22 L23 L24 L25 L26 L27 L28 L29 L30 L34 L35 L36 L37 L38 L39 L40 L41 L42 L43 L44 L45 L46 L47 L48 L49 L50 L51 L52 L53 L54 L55 L56 L57 L58 L59 L60 L61 L62 L63 L64 L65 L66 L67 L68 L69 L70 L71 L72 L73 L74 L75 L76 L77 L78 L79 L80 L81 L82 L83 L84 L85 L86 L87 L88 L89 L90 L91 L92 L93 L94 L95 L96 L97 L98 L99 L100 L101 L102 L103 L104 L105 L106 L107 L108 L109 L110 L111 L112 L113 L114 L115 L116 L117 L118 L119 L120 L121 L122 L123 L124 L125 L126 L127 L128 L129 L130 L131 L132 L133 L134 L135 L136 L137 L138 L139 L140 L141 L142 L143 L144 L145 L146 L147 L148 L149 L150 L151 L152 L153 L154 L155 L156 L157 L158 L159 L160 L161 L162 L163 L164 L165 L166 L167 L168 L169 L170 L171 L172 L173 L174 L175 L176 L177 L178 L179 L180 L181 L182 L183 L184 L185 L186 L187 L188 L189 L190 L191 L192 L193 L194 L195 L196 L197 L198 L199 L200 L201 L202 L203 L204 L205 L206 L207 L208 L209 L210 L211 L212 L213 L214 L215 L216 L217 L218 L219 L220 L221 L222 L223 L224 L225 L226 L227 L228 L229 L230 L231 L232 L233 L234 L235 L236 L237 L238 L239 L240 L241 L242 L243 L244 L245 L246 L247 L248 L249 L251 L252 L253 L254 L255 L256 L257 L258 L259 L260 L261 L262 L263 L264 L265 L266 L267 L268 L269 L270 L271 L272 L273 L274 L275 L276 L277 L278 L279 L280 L281 L282 L283 L284 L285 L286 L287 L288 L289 L290 L291 L292 L293 L294 L295 L296 L297 L298 L299 L300 L301 L302 L303 L304 L305 L306 L307 L308 L309 L310 L311 L312 L313 L314 L315 L316 L317 L318 L319 L320 L321 L322 L323 L324 L325 L326 L327 L328 L329 L330 L331 L332 L333 L334 L335 L336 L337 L338 L339 L340 L341 L342 L343 L344 L345 L346 L347 L348 L349 L350 L351 L352 L353 L354 L355 L356 L357 L358 L359 L360 L361 L362 L363 L364 L365 L366 L367 L368 L369 L370 L371 L372 L373 L374 L375 L376 L377 L378 L379 L380 L381 L382 L383 L384 L385 L386 L387 L388 L389 L390 L391 L392 L393 L394 L395 L396 L397 L398 L399 L400 L401 L402 L403 L404 L405 L406 L407 L408 L409 L410 L411 L412 L413 L414 : Value)
    (hfin : ∀ (v37 v38 v39 v40 v251 v252 v253 v254 v255 v256 v257 v258 v259 v260 v261 v262 v263 v264 v265 v266 v267 v268 v269 v270 v271 v272 v273 v274 : Value) (wx : World), (Below W.heap.size W wx) → KK ⟨#[L0, L1, L2, L3, L4, L5, L6, L7, L8, L9, L10, L11, L12, L13, L14, L15, L16, L17, L18, L19, L20, L21, L22, L23, L24, L25, L26, L27, L28, L29, L30, .pointer (some ⟨bc, 0, none⟩), .int .i64 k, .pointer (some ⟨bx, 0, none⟩), L34, L35, L36, v37, v38, v39, v40, L41, L42, L43, L44, L45, L46, L47, L48, L49, L50, L51, L52, L53, L54, L55, L56, L57, L58, L59, L60, L61, L62, L63, L64, L65, L66, L67, L68, L69, L70, L71, L72, L73, L74, L75, L76, L77, L78, L79, L80, L81, L82, L83, L84, L85, L86, L87, L88, L89, L90, L91, L92, L93, L94, L95, L96, L97, L98, L99, L100, L101, L102, L103, L104, L105, L106, L107, L108, L109, L110, L111, L112, L113, L114, L115, L116, L117, L118, L119, L120, L121, L122, L123, L124, L125, L126, L127, L128, L129, L130, L131, L132, L133, L134, L135, L136, L137, L138, L139, L140, L141, L142, L143, L144, L145, L146, L147, L148, L149, L150, L151, L152, L153, L154, L155, L156, L157, L158, L159, L160, L161, L162, L163, L164, L165, L166, L167, L168, L169, L170, L171, L172, L173, L174, L175, L176, L177, L178, L179, L180, L181, L182, L183, L184, L185, L186, L187, L188, L189, L190, L191, L192, L193, L194, L195, L196, L197, L198, L199, L200, L201, L202, L203, L204, L205, L206, L207, L208, L209, L210, L211, L212, L213, L214, L215, L216, L217, L218, L219, L220, L221, L222, L223, L224, L225, L226, L227, L228, L229, L230, L231, L232, L233, L234, L235, L236, L237, L238, L239, L240, L241, L242, L243, L244, L245, L246, L247, L248, L249, .bool q, v251, v252, v253, v254, v255, v256, v257, v258, v259, v260, v261, v262, v263, v264, v265, v266, v267, v268, v269, v270, v271, v272, v273, v274, L275, L276, L277, L278, L279, L280, L281, L282, L283, L284, L285, L286, L287, L288, L289, L290, L291, L292, L293, L294, L295, L296, L297, L298, L299, L300, L301, L302, L303, L304, L305, L306, L307, L308, L309, L310, L311, L312, L313, L314, L315, L316, L317, L318, L319, L320, L321, L322, L323, L324, L325, L326, L327, L328, L329, L330, L331, L332, L333, L334, L335, L336, L337, L338, L339, L340, L341, L342, L343, L344, L345, L346, L347, L348, L349, L350, L351, L352, L353, L354, L355, L356, L357, L358, L359, L360, L361, L362, L363, L364, L365, L366, L367, L368, L369, L370, L371, L372, L373, L374, L375, L376, L377, L378, L379, L380, L381, L382, L383, L384, L385, L386, L387, L388, L389, L390, L391, L392, L393, L394, L395, L396, L397, L398, L399, L400, L401, L402, L403, L404, L405, L406, L407, L408, L409, L410, L411, L412, L413, L414], []⟩ wx) :
    Code.wp Tryz.prog ((Tryz.f4.body.bind (condOf 250)).getD .skip) (Exit.then KK Q0) ⟨#[L0, L1, L2, L3, L4, L5, L6, L7, L8, L9, L10, L11, L12, L13, L14, L15, L16, L17, L18, L19, L20, L21, L22, L23, L24, L25, L26, L27, L28, L29, L30, .pointer (some ⟨bc, 0, none⟩), .int .i64 k, .pointer (some ⟨bx, 0, none⟩), L34, L35, L36, L37, L38, L39, L40, L41, L42, L43, L44, L45, L46, L47, L48, L49, L50, L51, L52, L53, L54, L55, L56, L57, L58, L59, L60, L61, L62, L63, L64, L65, L66, L67, L68, L69, L70, L71, L72, L73, L74, L75, L76, L77, L78, L79, L80, L81, L82, L83, L84, L85, L86, L87, L88, L89, L90, L91, L92, L93, L94, L95, L96, L97, L98, L99, L100, L101, L102, L103, L104, L105, L106, L107, L108, L109, L110, L111, L112, L113, L114, L115, L116, L117, L118, L119, L120, L121, L122, L123, L124, L125, L126, L127, L128, L129, L130, L131, L132, L133, L134, L135, L136, L137, L138, L139, L140, L141, L142, L143, L144, L145, L146, L147, L148, L149, L150, L151, L152, L153, L154, L155, L156, L157, L158, L159, L160, L161, L162, L163, L164, L165, L166, L167, L168, L169, L170, L171, L172, L173, L174, L175, L176, L177, L178, L179, L180, L181, L182, L183, L184, L185, L186, L187, L188, L189, L190, L191, L192, L193, L194, L195, L196, L197, L198, L199, L200, L201, L202, L203, L204, L205, L206, L207, L208, L209, L210, L211, L212, L213, L214, L215, L216, L217, L218, L219, L220, L221, L222, L223, L224, L225, L226, L227, L228, L229, L230, L231, L232, L233, L234, L235, L236, L237, L238, L239, L240, L241, L242, L243, L244, L245, L246, L247, L248, L249, .bool q, L251, L252, L253, L254, L255, L256, L257, L258, L259, L260, L261, L262, L263, L264, L265, L266, L267, L268, L269, L270, L271, L272, L273, L274, L275, L276, L277, L278, L279, L280, L281, L282, L283, L284, L285, L286, L287, L288, L289, L290, L291, L292, L293, L294, L295, L296, L297, L298, L299, L300, L301, L302, L303, L304, L305, L306, L307, L308, L309, L310, L311, L312, L313, L314, L315, L316, L317, L318, L319, L320, L321, L322, L323, L324, L325, L326, L327, L328, L329, L330, L331, L332, L333, L334, L335, L336, L337, L338, L339, L340, L341, L342, L343, L344, L345, L346, L347, L348, L349, L350, L351, L352, L353, L354, L355, L356, L357, L358, L359, L360, L361, L362, L363, L364, L365, L366, L367, L368, L369, L370, L371, L372, L373, L374, L375, L376, L377, L378, L379, L380, L381, L382, L383, L384, L385, L386, L387, L388, L389, L390, L391, L392, L393, L394, L395, L396, L397, L398, L399, L400, L401, L402, L403, L404, L405, L406, L407, L408, L409, L410, L411, L412, L413, L414], []⟩ w := by
  conv => arg 2; whnf
  cases q
  · go_wp2_with fail
    exact (by repeat' (first | (with_reducible exact Below.refl _ _) | (with_reducible assumption) | (with_reducible refine below_drewN ?_ _) | (with_reducible refine Below.drew ?_) | (with_reducible refine Below.alloc ?_ ?_ _) | (with_reducible refine Below.setCell ?_ ?_ _) | (with_reducible refine Below.trans ?_ (Below.mono (by with_reducible assumption) ?_)) | go_size | (dsimp only; omega)))
  · obtain ⟨h1, h2⟩ := HQ.out rfl
    subst h1
    obtain ⟨y0, y1, y2, y3, K3, K4⟩ := HX.out rfl h2
    go_wp2_with fail
    refine (K3.out.get _).mono ?_
    rintro e w1 ⟨rfl, bw1⟩
    have zw1 : w.heap.size ≤ w1.heap.size := bw1.size
    have cw1_bc_0 : w1.cell? ⟨bc, 0, none⟩ = some (.int .i64 c0) := by rw [bw1.cell (p := ⟨bc, 0, none⟩) (by dsimp only; omega)]; exact cw_bc_0
    have cw1_bc_1 : w1.cell? ⟨bc, 1, none⟩ = some (.int .i64 c1) := by rw [bw1.cell (p := ⟨bc, 1, none⟩) (by dsimp only; omega)]; exact cw_bc_1
    have cw1_bc_2 : w1.cell? ⟨bc, 2, none⟩ = some (.int .i64 c2) := by rw [bw1.cell (p := ⟨bc, 2, none⟩) (by dsimp only; omega)]; exact cw_bc_2
    have cw1_bc_3 : w1.cell? ⟨bc, 3, none⟩ = some (.int .i64 c3) := by rw [bw1.cell (p := ⟨bc, 3, none⟩) (by dsimp only; omega)]; exact cw_bc_3
    have cw1_bc_l : bc < w1.heap.size := by omega
    have cw1_bx_0 : w1.cell? ⟨bx, 0, none⟩ = some (.int .i64 x0) := by rw [bw1.cell (p := ⟨bx, 0, none⟩) (by dsimp only; omega)]; exact cw_bx_0
    have cw1_bx_1 : w1.cell? ⟨bx, 1, none⟩ = some (.int .i64 x1) := by rw [bw1.cell (p := ⟨bx, 1, none⟩) (by dsimp only; omega)]; exact cw_bx_1
    have cw1_bx_2 : w1.cell? ⟨bx, 2, none⟩ = some (.int .i64 x2) := by rw [bw1.cell (p := ⟨bx, 2, none⟩) (by dsimp only; omega)]; exact cw_bx_2
    have cw1_bx_3 : w1.cell? ⟨bx, 3, none⟩ = some (.int .i64 x3) := by rw [bw1.cell (p := ⟨bx, 3, none⟩) (by dsimp only; omega)]; exact cw_bx_3
    have cw1_bx_l : bx < w1.heap.size := by omega
    have lWw1 : W.heap.size ≤ w1.heap.size := by omega
    have hBw1 : Below W.heap.size W w1 := hBw.trans (bw1.mono (by omega))
    clear zw1 bw1 cw_bc_0 cw_bc_1 cw_bc_2 cw_bc_3 cw_bc_l cw_bx_0 cw_bx_1 cw_bx_2 cw_bx_3 cw_bx_l lWw hBw
    go_wp2_with fail
    generalize hww2 : World.alloc _ _ = w2
    obtain ⟨bl, hbl⟩ : ∃ b, w1.heap.size = b := ⟨_, rfl⟩
    have bbw2 : Below bl w1 w2 := by subst hww2 hbl; exact (by repeat' (first | (with_reducible exact Below.refl _ _) | (with_reducible assumption) | (with_reducible refine below_drewN ?_ _) | (with_reducible refine Below.drew ?_) | (with_reducible refine Below.alloc ?_ ?_ _) | (with_reducible refine Below.setCell ?_ ?_ _) | (with_reducible refine Below.trans ?_ (Below.mono (by with_reducible assumption) ?_)) | go_size | (dsimp only; omega)))
    have cw2_bl_0 : w2.cell? ⟨bl, 0, none⟩ = some (.int .i64 y0) := by subst hww2 hbl; first | (go_cell; done) | (go_simp; done)
    have cw2_bl_1 : w2.cell? ⟨bl, 1, none⟩ = some (.int .i64 y1) := by subst hww2 hbl; first | (go_cell; done) | (go_simp; done)
    have cw2_bl_2 : w2.cell? ⟨bl, 2, none⟩ = some (.int .i64 y2) := by subst hww2 hbl; first | (go_cell; done) | (go_simp; done)
    have cw2_bl_3 : w2.cell? ⟨bl, 3, none⟩ = some (.int .i64 y3) := by subst hww2 hbl; first | (go_cell; done) | (go_simp; done)
    have cw2_bl_l : bl < w2.heap.size := by subst hww2 hbl; go_size
    have yw2 := bbw2.size
    (try rw [hbl])
    clear hww2
    have zw2 : w1.heap.size ≤ w2.heap.size := yw2
    have cw2_bc_0 : w2.cell? ⟨bc, 0, none⟩ = some (.int .i64 c0) := by rw [bbw2.cell (p := ⟨bc, 0, none⟩) (by dsimp only; omega)]; exact cw1_bc_0
    have cw2_bc_1 : w2.cell? ⟨bc, 1, none⟩ = some (.int .i64 c1) := by rw [bbw2.cell (p := ⟨bc, 1, none⟩) (by dsimp only; omega)]; exact cw1_bc_1
    have cw2_bc_2 : w2.cell? ⟨bc, 2, none⟩ = some (.int .i64 c2) := by rw [bbw2.cell (p := ⟨bc, 2, none⟩) (by dsimp only; omega)]; exact cw1_bc_2
    have cw2_bc_3 : w2.cell? ⟨bc, 3, none⟩ = some (.int .i64 c3) := by rw [bbw2.cell (p := ⟨bc, 3, none⟩) (by dsimp only; omega)]; exact cw1_bc_3
    have cw2_bc_l : bc < w2.heap.size := by omega
    have cw2_bx_0 : w2.cell? ⟨bx, 0, none⟩ = some (.int .i64 x0) := by rw [bbw2.cell (p := ⟨bx, 0, none⟩) (by dsimp only; omega)]; exact cw1_bx_0
    have cw2_bx_1 : w2.cell? ⟨bx, 1, none⟩ = some (.int .i64 x1) := by rw [bbw2.cell (p := ⟨bx, 1, none⟩) (by dsimp only; omega)]; exact cw1_bx_1
    have cw2_bx_2 : w2.cell? ⟨bx, 2, none⟩ = some (.int .i64 x2) := by rw [bbw2.cell (p := ⟨bx, 2, none⟩) (by dsimp only; omega)]; exact cw1_bx_2
    have cw2_bx_3 : w2.cell? ⟨bx, 3, none⟩ = some (.int .i64 x3) := by rw [bbw2.cell (p := ⟨bx, 3, none⟩) (by dsimp only; omega)]; exact cw1_bx_3
    have cw2_bx_l : bx < w2.heap.size := by omega
    have lWw2 : W.heap.size ≤ w2.heap.size := by omega
    have hBw2 : Below W.heap.size W w2 := hBw1.trans (bbw2.mono (by omega))
    clear zw2 bbw2 cw1_bc_0 cw1_bc_1 cw1_bc_2 cw1_bc_3 cw1_bc_l cw1_bx_0 cw1_bx_1 cw1_bx_2 cw1_bx_3 cw1_bx_l lWw1 hBw1
    clear yw2 hbl
    refine (K4.out.get _).mono ?_
    rintro e w3 ⟨rfl, bw3⟩
    have zw3 : w2.heap.size ≤ w3.heap.size := bw3.size
    have cw3_bc_0 : w3.cell? ⟨bc, 0, none⟩ = some (.int .i64 c0) := by rw [bw3.cell (p := ⟨bc, 0, none⟩) (by dsimp only; omega)]; exact cw2_bc_0
    have cw3_bc_1 : w3.cell? ⟨bc, 1, none⟩ = some (.int .i64 c1) := by rw [bw3.cell (p := ⟨bc, 1, none⟩) (by dsimp only; omega)]; exact cw2_bc_1
    have cw3_bc_2 : w3.cell? ⟨bc, 2, none⟩ = some (.int .i64 c2) := by rw [bw3.cell (p := ⟨bc, 2, none⟩) (by dsimp only; omega)]; exact cw2_bc_2
    have cw3_bc_3 : w3.cell? ⟨bc, 3, none⟩ = some (.int .i64 c3) := by rw [bw3.cell (p := ⟨bc, 3, none⟩) (by dsimp only; omega)]; exact cw2_bc_3
    have cw3_bc_l : bc < w3.heap.size := by omega
    have cw3_bx_0 : w3.cell? ⟨bx, 0, none⟩ = some (.int .i64 x0) := by rw [bw3.cell (p := ⟨bx, 0, none⟩) (by dsimp only; omega)]; exact cw2_bx_0
    have cw3_bx_1 : w3.cell? ⟨bx, 1, none⟩ = some (.int .i64 x1) := by rw [bw3.cell (p := ⟨bx, 1, none⟩) (by dsimp only; omega)]; exact cw2_bx_1
    have cw3_bx_2 : w3.cell? ⟨bx, 2, none⟩ = some (.int .i64 x2) := by rw [bw3.cell (p := ⟨bx, 2, none⟩) (by dsimp only; omega)]; exact cw2_bx_2
    have cw3_bx_3 : w3.cell? ⟨bx, 3, none⟩ = some (.int .i64 x3) := by rw [bw3.cell (p := ⟨bx, 3, none⟩) (by dsimp only; omega)]; exact cw2_bx_3
    have cw3_bx_l : bx < w3.heap.size := by omega
    have cw3_bl_0 : w3.cell? ⟨bl, 0, none⟩ = some (.int .i64 y0) := by rw [bw3.cell (p := ⟨bl, 0, none⟩) (by dsimp only; omega)]; exact cw2_bl_0
    have cw3_bl_1 : w3.cell? ⟨bl, 1, none⟩ = some (.int .i64 y1) := by rw [bw3.cell (p := ⟨bl, 1, none⟩) (by dsimp only; omega)]; exact cw2_bl_1
    have cw3_bl_2 : w3.cell? ⟨bl, 2, none⟩ = some (.int .i64 y2) := by rw [bw3.cell (p := ⟨bl, 2, none⟩) (by dsimp only; omega)]; exact cw2_bl_2
    have cw3_bl_3 : w3.cell? ⟨bl, 3, none⟩ = some (.int .i64 y3) := by rw [bw3.cell (p := ⟨bl, 3, none⟩) (by dsimp only; omega)]; exact cw2_bl_3
    have cw3_bl_l : bl < w3.heap.size := by omega
    have lWw3 : W.heap.size ≤ w3.heap.size := by omega
    have hBw3 : Below W.heap.size W w3 := hBw2.trans (bw3.mono (by omega))
    clear zw3 bw3 cw2_bc_0 cw2_bc_1 cw2_bc_2 cw2_bc_3 cw2_bc_l cw2_bx_0 cw2_bx_1 cw2_bx_2 cw2_bx_3 cw2_bx_l cw2_bl_0 cw2_bl_1 cw2_bl_2 cw2_bl_3 cw2_bl_l lWw2 hBw2
    go_wp2_with fail
    exact (by repeat' (first | (with_reducible exact Below.refl _ _) | (with_reducible assumption) | (with_reducible refine below_drewN ?_ _) | (with_reducible refine Below.drew ?_) | (with_reducible refine Below.alloc ?_ ?_ _) | (with_reducible refine Below.setCell ?_ ?_ _) | (with_reducible refine Below.trans ?_ (Below.mono (by with_reducible assumption) ?_)) | go_size | (dsimp only; omega)))
set_option maxRecDepth 1000000 in
set_option maxHeartbeats 8000000 in
theorem reg4_c {KK : Act → World → Prop} {Q0 : Exit → Act → World → Prop} (W w : World) (hBw : Below W.heap.size W w) (lWw : W.heap.size ≤ w.heap.size) (o c k2 d : Int) (HX : Hid (d = 0 → (c = 0 ↔ k2 < 2)))   (L0 L1 L2 L3 L4 L5 L6 L7 L8 L9 L10 L11 L12 L13 L14 L15 L16 L17 L18 L19 L20 L21 L22 L23 L24 L25 L26 L27 L28 L29 L30 L31 L32 L33 L34 L35 L36 L37 L38 L39 L40 L41 L50 L51 L52 L53 L54 L55 L56 L57 L58 L59 L60 L61 L62 L63 L64 L65 L66 L67 L68 L69 L70 L71 L72 L73 L74 L75 L76 L77 L78 L79 L80 L81 L82 L83 L84 L85 L86 L87 L88 L89 L90 L91 L92 L93 L94 L95 L96 L97 L98 L99 L100 L101 L102 L103 L104 L105 L106 L107 L108 L109 L110 L111 L112 L113 L114 L115 L116 L117 L118 L119 L120 L121 L122 L123 L124 L125 L126 L127 L128 L129 L130 L131 L132 L133 L134 L135 L136 L137 L138 L139 L140 L141 L142 L143 L144 L145 L146 L147 L148 L149 L150 L151 L152 L153 L154 L155 L156 L157 L158 L159 L160 L161 L162 L163 L164 L165 L166 L167 L168 L169 L170 L171 L172 L173 L174 L175 L176 L177 L178 L179 L180 L181 L182 L183 L184 L185 L186 L187 L188 L189 L190 L191 L192 L193 L194 L195 L196 L197 L198 L199 L200 L201 L202 L203 L204 L205 L206 L207 L208 L209 L210 L211 L212 L213 L214 L215 L216 L217 L218 L219 L220 L221 L222 L223 L224 L225 L226 L227 L228 L229 L230 L231 L232 L233 L234 L235 L236 L237 L238 L239 L240 L241 L242 L243 L244 L245 L246 L247 L248 L249 L250 L251 L252 L253 L254 L255 L256 L257 L258 L259 L260 L261 L262 L263 L264 L265 L266 L267 L268 L269 L270 L271 L272 L273 L274 L275 L276 L277 L278 L279 L280 L281 L282 L283 L284 L285 L286 L287 L288 L289 L290 L291 L292 L293 L294 L295 L296 L297 L298 L299 L300 L301 L302 L303 L304 L305 L306 L307 L308 L309 L310 L311 L312 L313 L314 L315 L316 L317 L318 L319 L320 L321 L322 L323 L324 L325 L326 L327 L328 L329 L330 L331 L332 L333 L334 L335 L336 L337 L338 L339 L340 L341 L342 L343 L344 L345 L346 L347 L348 L349 L350 L351 L352 L353 L354 L355 L356 L357 L358 L359 L360 L361 L362 L363 L364 L365 L366 L367 L368 L369 L370 L371 L372 L373 L374 L375 L376 L377 L378 L379 L380 L381 L382 L383 L384 L385 L386 L387 L388 L389 L390 L391 L392 L393 L394 L395 L396 L397 L398 L399 L400 L401 L402 L403 L404 L405 L406 L407 L408 L409 L410 L411 L412 L413 L414 : Value)
    (hfin : ∀ (v297 v298 v299 v300 v301 v302 v303 v304 v305 v306 v307 v308 v309 v310 v311 v312 v313 v314 v315 v316 v317 v318 v319 v320 v321 v322 v323 v324 : Value) (wx : World), (Below w.heap.size w wx) → KK ⟨#[L0, L1, L2, L3, L4, L5, L6, L7, L8, L9, L10, L11, L12, L13, L14, L15, L16, L17, L18, L19, L20, L21, L22, L23, L24, L25, L26, L27, L28, L29, L30, L31, L32, L33, L34, L35, L36, L37, L38, L39, L40, L41, .int .i64 o, .int .i64 c, .int .i64 o, .int .i64 c, .int .i64 k2, .int .i64 d, .int .i64 k2, .int .i64 d, L50, L51, L52, L53, L54, L55, L56, L57, L58, L59, L60, L61, L62, L63, L64, L65, L66, L67, L68, L69, L70, L71, L72, L73, L74, L75, L76, L77, L78, L79, L80, L81, L82, L83, L84, L85, L86, L87, L88, L89, L90, L91, L92, L93, L94, L95, L96, L97, L98, L99, L100, L101, L102, L103, L104, L105, L106, L107, L108, L109, L110, L111, L112, L113, L114, L115, L116, L117, L118, L119, L120, L121, L122, L123, L124, L125, L126, L127, L128, L129, L130, L131, L132, L133, L134, L135, L136, L137, L138, L139, L140, L141, L142, L143, L144, L145, L146, L147, L148, L149, L150, L151, L152, L153, L154, L155, L156, L157, L158, L159, L160, L161, L162, L163, L164, L165, L166, L167, L168, L169, L170, L171, L172, L173, L174, L175, L176, L177, L178, L179, L180, L181, L182, L183, L184, L185, L186, L187, L188, L189, L190, L191, L192, L193, L194, L195, L196, L197, L198, L199, L200, L201, L202, L203, L204, L205, L206, L207, L208, L209, L210, L211, L212, L213, L214, L215, L216, L217, L218, L219, L220, L221, L222, L223, L224, L225, L226, L227, L228, L229, L230, L231, L232, L233, L234, L235, L236, L237, L238, L239, L240, L241, L242, L243, L244, L245, L246, L247, L248, L249, L250, L251, L252, L253, L254, L255, L256, L257, L258, L259, L260, L261, L262, L263, L264, L265, L266, L267, L268, L269, L270, L271, L272, L273, L274, L275, L276, L277, L278, L279, L280, L281, L282, L283, L284, L285, L286, L287, L288, L289, L290, L291, L292, L293, L294, L295, L296, v297, v298, v299, v300, v301, v302, v303, v304, v305, v306, v307, v308, v309, v310, v311, v312, v313, v314, v315, v316, v317, v318, v319, v320, v321, v322, v323, v324, .bool false, L326, L327, L328, L329, L330, L331, L332, L333, L334, L335, L336, L337, L338, L339, L340, L341, L342, L343, L344, L345, L346, L347, L348, L349, L350, L351, L352, L353, L354, L355, L356, L357, L358, L359, L360, L361, L362, L363, L364, L365, L366, L367, L368, L369, L370, L371, L372, L373, L374, L375, L376, L377, L378, L379, L380, L381, L382, L383, L384, L385, L386, L387, L388, L389, L390, L391, L392, L393, L394, L395, L396, L397, L398, L399, L400, L401, L402, L403, L404, L405, L406, L407, L408, L409, L410, L411, L412, L413, L414], []⟩ wx) :
    Code.wp Tryz.prog ((Tryz.f4.body.bind (regionOf 42)).getD .skip) (Exit.then KK Q0) ⟨#[L0, L1, L2, L3, L4, L5, L6, L7, L8, L9, L10, L11, L12, L13, L14, L15, L16, L17, L18, L19, L20, L21, L22, L23, L24, L25, L26, L27, L28, L29, L30, L31, L32, L33, L34, L35, L36, L37, L38, L39, L40, L41, .int .i64 o, .int .i64 c, .int .i64 o, .int .i64 c, .int .i64 k2, .int .i64 d, .int .i64 k2, .int .i64 d, L50, L51, L52, L53, L54, L55, L56, L57, L58, L59, L60, L61, L62, L63, L64, L65, L66, L67, L68, L69, L70, L71, L72, L73, L74, L75, L76, L77, L78, L79, L80, L81, L82, L83, L84, L85, L86, L87, L88, L89, L90, L91, L92, L93, L94, L95, L96, L97, L98, L99, L100, L101, L102, L103, L104, L105, L106, L107, L108, L109, L110, L111, L112, L113, L114, L115, L116, L117, L118, L119, L120, L121, L122, L123, L124, L125, L126, L127, L128, L129, L130, L131, L132, L133, L134, L135, L136, L137, L138, L139, L140, L141, L142, L143, L144, L145, L146, L147, L148, L149, L150, L151, L152, L153, L154, L155, L156, L157, L158, L159, L160, L161, L162, L163, L164, L165, L166, L167, L168, L169, L170, L171, L172, L173, L174, L175, L176, L177, L178, L179, L180, L181, L182, L183, L184, L185, L186, L187, L188, L189, L190, L191, L192, L193, L194, L195, L196, L197, L198, L199, L200, L201, L202, L203, L204, L205, L206, L207, L208, L209, L210, L211, L212, L213, L214, L215, L216, L217, L218, L219, L220, L221, L222, L223, L224, L225, L226, L227, L228, L229, L230, L231, L232, L233, L234, L235, L236, L237, L238, L239, L240, L241, L242, L243, L244, L245, L246, L247, L248, L249, L250, L251, L252, L253, L254, L255, L256, L257, L258, L259, L260, L261, L262, L263, L264, L265, L266, L267, L268, L269, L270, L271, L272, L273, L274, L275, L276, L277, L278, L279, L280, L281, L282, L283, L284, L285, L286, L287, L288, L289, L290, L291, L292, L293, L294, L295, L296, L297, L298, L299, L300, L301, L302, L303, L304, L305, L306, L307, L308, L309, L310, L311, L312, L313, L314, L315, L316, L317, L318, L319, L320, L321, L322, L323, L324, L325, L326, L327, L328, L329, L330, L331, L332, L333, L334, L335, L336, L337, L338, L339, L340, L341, L342, L343, L344, L345, L346, L347, L348, L349, L350, L351, L352, L353, L354, L355, L356, L357, L358, L359, L360, L361, L362, L363, L364, L365, L366, L367, L368, L369, L370, L371, L372, L373, L374, L375, L376, L377, L378, L379, L380, L381, L382, L383, L384, L385, L386, L387, L388, L389, L390, L391, L392, L393, L394, L395, L396, L397, L398, L399, L400, L401, L402, L403, L404, L405, L406, L407, L408, L409, L410, L411, L412, L413, L414], []⟩ w := by
  conv => arg 2; whnf
  by_cases h1 : d = 0
  · subst h1
    by_cases h2 : c = 0
    · have h3 := (HX.out rfl).mp h2
      subst h2
      have h3' : decide (k2 < 2) = true := decide_eq_true h3
      go_wp2_with fail
      exact (by repeat' (first | (with_reducible exact Below.refl _ _) | (with_reducible assumption) | (with_reducible refine below_drewN ?_ _) | (with_reducible refine Below.drew ?_) | (with_reducible refine Below.alloc ?_ ?_ _) | (with_reducible refine Below.setCell ?_ ?_ _) | (with_reducible refine Below.trans ?_ (Below.mono (by with_reducible assumption) ?_)) | go_size | (dsimp only; omega)))
    · have h3 : ¬ k2 < 2 := fun h => h2 ((HX.out rfl).mpr h)
      have h2' : (c == 0) = false := by simpa using h2
      have h3' : decide (k2 < 2) = false := decide_eq_false h3
      go_wp2_with fail
      exact (by repeat' (first | (with_reducible exact Below.refl _ _) | (with_reducible assumption) | (with_reducible refine below_drewN ?_ _) | (with_reducible refine Below.drew ?_) | (with_reducible refine Below.alloc ?_ ?_ _) | (with_reducible refine Below.setCell ?_ ?_ _) | (with_reducible refine Below.trans ?_ (Below.mono (by with_reducible assumption) ?_)) | go_size | (dsimp only; omega)))
  · have h1' : (d == 0) = false := by simpa using h1
    go_wp2_with fail
    exact (by repeat' (first | (with_reducible exact Below.refl _ _) | (with_reducible assumption) | (with_reducible refine below_drewN ?_ _) | (with_reducible refine Below.drew ?_) | (with_reducible refine Below.alloc ?_ ?_ _) | (with_reducible refine Below.setCell ?_ ?_ _) | (with_reducible refine Below.trans ?_ (Below.mono (by with_reducible assumption) ?_)) | go_size | (dsimp only; omega)))
set_option maxRecDepth 1000000 in
set_option maxHeartbeats 8000000 in
theorem sec4_c {KK : Act → World → Prop} {Q0 : Exit → Act → World → Prop} (W w : World) (hBw : Below W.heap.size W w) (lWw : W.heap.size ≤ w.heap.size) (bd : Nat) (d0 d1 d2 d3 o c d : Int) (HY : Hid (c = 0 → d = 0 ∧ Hid (RetT 49 #[.agg #[.int .i64 d0, .int .i64 d1, .int .i64 d2, .int .i64 d3], .int .i64 o] (.tuple #[.agg #[.int .i64 1, .int .i64 0, .int .i64 0, .int .i64 1], .int .i64 0])) ∧ 12 % o = 0 ∧ 1 ≤ o ∧ o ≤ 6)) (cw_bd_0 : w.cell? ⟨bd, 0, none⟩ = some (.int .i64 d0)) (cw_bd_1 : w.cell? ⟨bd, 1, none⟩ = some (.int .i64 d1)) (cw_bd_2 : w.cell? ⟨bd, 2, none⟩ = some (.int .i64 d2)) (cw_bd_3 : w.cell? ⟨bd, 3, none⟩ = some (.int .i64 d3)) (cw_bd_l : bd < w.heap.size) (L0 L1 L2 L3 L4 L5 L6 L7 L8 L9 L10 L11 L12 L13 L14 L15 L16 L17 L18 L19 L20 L21 L22 L23 L24 L25 L26 L27 L28 L29 L30 L31 L32 L33 L34 L35 L36 L37 L38 L39 L40 L44 L45 L46 L47 L48 L49 L50 L51 L52 L53 L54 L55 L56 L57 L58 L59 L60 L61 L62 L63 L64 L65 L66 L67 L68 L69 L70 L71 L72 L73 L74 L75 L76 L77 L78 L79 L80 L81 L82 L83 L84 L85 L86 L87 L88 L89 L90 L91 L92 L93 L94 L95 L96 L97 L98 L99 L100 L101 L102 L103 L104 L105 L106 L107 L108 L109 L110 L111 L112 L113 L114 L115 L116 L117 L118 L119 L120 L121 L122 L123 L124 L125 L126 L127 L128 L129 L130 L131 L132 L133 L134 L135 L136 L137 L138 L139 L140 L141 L142 L143 L144 L145 L146 L147 L148 L149 L150 L151 L152 L153 L154 L155 L156 L157 L158 L159 L160 L161 L162 L163 L164 L165 L166 L167 L168 L169 L170 L171 L172 L173 L174 L175 L176 L177 L178 L179 L180 L181 L182 L183 L184 L185 L186 L187 L188 L189 L190 L191 L192 L193 L194 L195 L196 L197 L198 L199 L200 L201 L202 L203 L204 L205 L206 L207 L208 L209 L210 L211 L212 L213 L214 L215 L216 L217 L218 L219 L220 L221 L222 L223 L224 L225 L226 L227 L228 L229 L230 L231 L232 L233 L234 L235 L236 L237 L238 L239 L240 L241 L242 L243 L244 L245 L246 L247 L248 L249 L250 L251 L252 L253 L254 L255 L256 L257 L258 L259 L260 L261 L262 L263 L264 L265 L266 L267 L268 L269 L270 L271 L272 L273 L274 L275 L276 L277 L278 L279 L280 L281 L282 L283 L284 L285 L286 L287 L288 L289 L290 L291 L292 L293 L294 L295 L296 L297 L298 L299 L300 L301 L302 L303 L304 L305 L306 L307 L308 L309 L310 L311 L312 L313 L314 L315 L316 L317 L318 L319 L320 L321 L322 L323 L324 L325 L326 L328 L329 L330 L331 L332 L333 L334 L335 L336 L337 L338 L339 L340 L341 L342 L343 L344 L345 L346 L347 L348 L349 L350 L351 L352 L353 L354 L355 L356 L357 L358 L359 L360 L361 L362 L363 L364 L365 L366 L367 L368 L369 L370 L371 L372 L373 L374 L375 L376 L377 L378 L379 L380 L381 L382 L383 L384 L385 L386 L387 L388 L389 L390 L391 L392 L393 L394 L395 L396 L397 L398 L399 L400 L401 L402 L403 L404 L405 L406 L407 L408 L409 L410 L411 L412 L413 L414 : Value)
    (hfin : ∀ (v50 v51 v328 v329 v330 v331 v332 v333 v334 v335 v336 v337 v338 v339 v340 v341 v342 v343 v344 v345 : Value) (wx : World), (Below W.heap.size W wx) → KK ⟨#[L0, L1, L2, L3, L4, L5, L6, L7, L8, L9, L10, L11, L12, L13, L14, L15, L16, L17, L18, L19, L20, L21, L22, L23, L24, L25, L26, L27, L28, L29, L30, L31, L32, L33, L34, L35, L36, L37, L38, L39, L40, .pointer (some ⟨bd, 0, none⟩), .int .i64 o, .int .i64 c, L44, L45, L46, L47, L48, L49, v50, v51, L52, L53, L54, L55, L56, L57, L58, L59, L60, L61, L62, L63, L64, L65, L66, L67, L68, L69, L70, L71, L72, L73, L74, L75, L76, L77, L78, L79, L80, L81, L82, L83, L84, L85, L86, L87, L88, L89, L90, L91, L92, L93, L94, L95, L96, L97, L98, L99, L100, L101, L102, L103, L104, L105, L106, L107, L108, L109, L110, L111, L112, L113, L114, L115, L116, L117, L118, L119, L120, L121, L122, L123, L124, L125, L126, L127, L128, L129, L130, L131, L132, L133, L134, L135, L136, L137, L138, L139, L140, L141, L142, L143, L144, L145, L146, L147, L148, L149, L150, L151, L152, L153, L154, L155, L156, L157, L158, L159, L160, L161, L162, L163, L164, L165, L166, L167, L168, L169, L170, L171, L172, L173, L174, L175, L176, L177, L178, L179, L180, L181, L182, L183, L184, L185, L186, L187, L188, L189, L190, L191, L192, L193, L194, L195, L196, L197, L198, L199, L200, L201, L202, L203, L204, L205, L206, L207, L208, L209, L210, L211, L212, L213, L214, L215, L216, L217, L218, L219, L220, L221, L222, L223, L224, L225, L226, L227, L228, L229, L230, L231, L232, L233, L234, L235, L236, L237, L238, L239, L240, L241, L242, L243, L244, L245, L246, L247, L248, L249, L250, L251, L252, L253, L254, L255, L256, L257, L258, L259, L260, L261, L262, L263, L264, L265, L266, L267, L268, L269, L270, L271, L272, L273, L274, L275, L276, L277, L278, L279, L280, L281, L282, L283, L284, L285, L286, L287, L288, L289, L290, L291, L292, L293, L294, L295, L296, L297, L298, L299, L300, L301, L302, L303, L304, L305, L306, L307, L308, L309, L310, L311, L312, L313, L314, L315, L316, L317, L318, L319, L320, L321, L322, L323, L324, L325, L326, .bool (c == 0), v328, v329, v330, v331, v332, v333, v334, v335, v336, v337, v338, v339, v340, v341, v342, v343, v344, v345, L346, L347, L348, L349, L350, L351, L352, L353, L354, L355, L356, L357, L358, L359, L360, L361, L362, L363, L364, L365, L366, L367, L368, L369, L370, L371, L372, L373, L374, L375, L376, L377, L378, L379, L380, L381, L382, L383, L384, L385, L386, L387, L388, L389, L390, L391, L392, L393, L394, L395, L396, L397, L398, L399, L400, L401, L402, L403, L404, L405, L406, L407, L408, L409, L410, L411, L412, L413, L414], []⟩ wx) :
    Code.wp Tryz.prog ((Tryz.f4.body.bind (condOf 327)).getD .skip) (Exit.then KK Q0) ⟨#[L0, L1, L2, L3, L4, L5, L6, L7, L8, L9, L10, L11, L12, L13, L14, L15, L16, L17, L18, L19, L20, L21, L22, L23, L24, L25, L26, L27, L28, L29, L30, L31, L32, L33, L34, L35, L36, L37, L38, L39, L40, .pointer (some ⟨bd, 0, none⟩), .int .i64 o, .int .i64 c, L44, L45, L46, L47, L48, L49, L50, L51, L52, L53, L54, L55, L56, L57, L58, L59, L60, L61, L62, L63, L64, L65, L66, L67, L68, L69, L70, L71, L72, L73, L74, L75, L76, L77, L78, L79, L80, L81, L82, L83, L84, L85, L86, L87, L88, L89, L90, L91, L92, L93, L94, L95, L96, L97, L98, L99, L100, L101, L102, L103, L104, L105, L106, L107, L108, L109, L110, L111, L112, L113, L114, L115, L116, L117, L118, L119, L120, L121, L122, L123, L124, L125, L126, L127, L128, L129, L130, L131, L132, L133, L134, L135, L136, L137, L138, L139, L140, L141, L142, L143, L144, L145, L146, L147, L148, L149, L150, L151, L152, L153, L154, L155, L156, L157, L158, L159, L160, L161, L162, L163, L164, L165, L166, L167, L168, L169, L170, L171, L172, L173, L174, L175, L176, L177, L178, L179, L180, L181, L182, L183, L184, L185, L186, L187, L188, L189, L190, L191, L192, L193, L194, L195, L196, L197, L198, L199, L200, L201, L202, L203, L204, L205, L206, L207, L208, L209, L210, L211, L212, L213, L214, L215, L216, L217, L218, L219, L220, L221, L222, L223, L224, L225, L226, L227, L228, L229, L230, L231, L232, L233, L234, L235, L236, L237, L238, L239, L240, L241, L242, L243, L244, L245, L246, L247, L248, L249, L250, L251, L252, L253, L254, L255, L256, L257, L258, L259, L260, L261, L262, L263, L264, L265, L266, L267, L268, L269, L270, L271, L272, L273, L274, L275, L276, L277, L278, L279, L280, L281, L282, L283, L284, L285, L286, L287, L288, L289, L290, L291, L292, L293, L294, L295, L296, L297, L298, L299, L300, L301, L302, L303, L304, L305, L306, L307, L308, L309, L310, L311, L312, L313, L314, L315, L316, L317, L318, L319, L320, L321, L322, L323, L324, L325, L326, .bool (c == 0), L328, L329, L330, L331, L332, L333, L334, L335, L336, L337, L338, L339, L340, L341, L342, L343, L344, L345, L346, L347, L348, L349, L350, L351, L352, L353, L354, L355, L356, L357, L358, L359, L360, L361, L362, L363, L364, L365, L366, L367, L368, L369, L370, L371, L372, L373, L374, L375, L376, L377, L378, L379, L380, L381, L382, L383, L384, L385, L386, L387, L388, L389, L390, L391, L392, L393, L394, L395, L396, L397, L398, L399, L400, L401, L402, L403, L404, L405, L406, L407, L408, L409, L410, L411, L412, L413, L414], []⟩ w := by
  conv => arg 2; whnf
  by_cases h1 : c = 0
  · obtain ⟨-, KP, h12, ho1, ho6⟩ := HY.out h1
    subst h1
    have ho0 : (o == 0) = false := by simp; omega
    have hrem : (12 : Int).tmod o = 0 := by rw [Int.tmod_eq_emod_of_nonneg (by omega)]; exact h12
    go_wp2_with fail
    refine (KP.out.get _).mono ?_
    rintro e w1 ⟨rfl, bw1⟩
    have zw1 : w.heap.size ≤ w1.heap.size := bw1.size
    have cw1_bd_0 : w1.cell? ⟨bd, 0, none⟩ = some (.int .i64 d0) := by rw [bw1.cell (p := ⟨bd, 0, none⟩) (by dsimp only; omega)]; exact cw_bd_0
    have cw1_bd_1 : w1.cell? ⟨bd, 1, none⟩ = some (.int .i64 d1) := by rw [bw1.cell (p := ⟨bd, 1, none⟩) (by dsimp only; omega)]; exact cw_bd_1
    have cw1_bd_2 : w1.cell? ⟨bd, 2, none⟩ = some (.int .i64 d2) := by rw [bw1.cell (p := ⟨bd, 2, none⟩) (by dsimp only; omega)]; exact cw_bd_2
    have cw1_bd_3 : w1.cell? ⟨bd, 3, none⟩ = some (.int .i64 d3) := by rw [bw1.cell (p := ⟨bd, 3, none⟩) (by dsimp only; omega)]; exact cw_bd_3
    have cw1_bd_l : bd < w1.heap.size := by omega
    have lWw1 : W.heap.size ≤ w1.heap.size := by omega
    have hBw1 : Below W.heap.size W w1 := hBw.trans (bw1.mono (by omega))
    clear zw1 bw1 cw_bd_0 cw_bd_1 cw_bd_2 cw_bd_3 cw_bd_l lWw hBw
    go_wp2_with fail
    exact (by repeat' (first | (with_reducible exact Below.refl _ _) | (with_reducible assumption) | (with_reducible refine below_drewN ?_ _) | (with_reducible refine Below.drew ?_) | (with_reducible refine Below.alloc ?_ ?_ _) | (with_reducible refine Below.setCell ?_ ?_ _) | (with_reducible refine Below.trans ?_ (Below.mono (by with_reducible assumption) ?_)) | go_size | (dsimp only; omega)))
  · have h1' : (c == 0) = false := by simpa using h1
    go_wp2_with fail
    exact (by repeat' (first | (with_reducible exact Below.refl _ _) | (with_reducible assumption) | (with_reducible refine below_drewN ?_ _) | (with_reducible refine Below.drew ?_) | (with_reducible refine Below.alloc ?_ ?_ _) | (with_reducible refine Below.setCell ?_ ?_ _) | (with_reducible refine Below.trans ?_ (Below.mono (by with_reducible assumption) ?_)) | go_size | (dsimp only; omega)))
end Go.Proofs.YtlkhhpckgcdeeaaGreatDoor
