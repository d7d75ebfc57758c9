/- The formulas of functions of this seat, each tied to its calls; conditions: none. -/
import Derived.Test.YtplfniijbeinmaaGreatProg
import Derived.Test.YtplfniijbeinmaaGreatFx
import Derived.KernelRfl
namespace Go.Proofs.YtplfniijbeinmaaGreat
open Go.Fx
set_option linter.unusedVariables false
set_option linter.constructorNameAsVariable false
set_option maxRecDepth 100000
theorem mixedJ : Tryz.prog.follows .mixedOrders = true := by kernel_rfl
/-- mintmark/mintmarklaw17.ExecJumps -/
def F5 (P : Program) (t0 t1 t2 : Value) (w : World) (K : Value → World → Prop) : Prop :=
  kV P (binV .and 3 (.tmp 31) (.const (.int .i64 7)) t0 (.int .i64 7)) w fun v32 w =>
  kV P (binV .add 3 (.const (.int .i64 2)) (.tmp 32) (.int .i64 2) v32) w fun v33 w =>
  kV P (binV .and 3 (.tmp 34) (.const (.int .i64 15)) t2 (.int .i64 15)) w fun v35 w =>
  kV P (binV .add 3 (.const (.int .i64 1)) (.tmp 35) (.int .i64 1) v35) w fun v36 w =>
  kV P (binV .mul 3 (.const (.int .i64 4)) (.tmp 39) (.int .i64 4) v33) w fun v40 w =>
  kV P (Instr.build 49 #[(0, (.int .i64 3)), (1, v36), (4, v40)]) w fun v41 w =>
  kN P (callN (.func (.func 14) #[] #[]) #[v41]) w fun v42 w =>
  kV P (Instr.extract v42 0) w fun v43 w =>
  kV P (Instr.extract v42 1) w fun v44 w =>
  kV P (Instr.build 49 #[(0, (.int .i64 4)), (1, (.int .i64 20)), (2, v36)]) w fun v47 w =>
  kN P (callN (.func (.func 14) #[] #[]) #[v47]) w fun v48 w =>
  kV P (Instr.extract v48 0) w fun v49 w =>
  kV P (Instr.extract v48 1) w fun v50 w =>
  kV P (binV .and 3 (.tmp 53) (.const (.int .i64 255)) t1 (.int .i64 255)) w fun v54 w =>
  kV P (binV .add 3 (.const (.int .i64 1)) (.tmp 54) (.int .i64 1) v54) w fun v55 w =>
  kV P (Instr.build 49 #[(0, (.int .i64 4)), (1, (.int .i64 20)), (2, v36), (4, v55)]) w fun v56 w =>
  kN P (callN (.func (.func 14) #[] #[]) #[v56]) w fun v57 w =>
  kV P (Instr.extract v57 0) w fun v58 w =>
  kV P (Instr.extract v57 1) w fun v59 w =>
  kV P (Op.unary .not v44) w fun v61 w =>
  joinK (fun J0 : Value → World → Prop => gdK (yb v61) false (fun k => k v50 w) w fun v63 w =>
  gdK (yb v61) false (fun k => kV P (Op.unary .not v63) w k) w fun v64 w =>
  kN P (pickN v61 (.bool true) v64) w fun v65_1 w =>
  J0 v65_1 w) fun v65 w =>
  joinK (fun J1 : Value → World → Prop => gdK (yb v65) false (fun k => k v59 w) w fun v67 w =>
  gdK (yb v65) false (fun k => kV P (Op.unary .not v67) w k) w fun v68 w =>
  kN P (pickN v65 (.bool true) v68) w fun v69_1 w =>
  J1 v69_1 w) fun v69 w =>
  condK v69
  (K (.bool false) w)
  (kV P (binV .add 3 (.tmp 70) (.const (.int .i64 1)) v33 (.int .i64 1)) w fun v71 w =>
  kV P (Instr.makeSlice 39 v71 v71) w fun v72 w =>
  kV P (Instr.indexAt 39 v72 (.int .i64 0)) w fun v78 w =>
  kU P (Instr.storeAt 38 v78 v43) w fun _ w =>
  kV P (Instr.indexAt 39 v72 v33) w fun v79 w =>
  kU P (Instr.storeAt 38 v79 v49) w fun _ w =>
  kV P (Instr.build 45 #[(0, v72)]) w fun v82 w =>
  kN P (callN (.func (.func 7) #[] #[]) #[v82]) w fun v83 w =>
  kV P (Instr.extract v83 0) w fun v84 w =>
  kV P (Instr.extract v83 1) w fun v85 w =>
  kV P (Instr.extract v83 2) w fun v86 w =>
  kV P (Instr.alloc 35 true (.tuple #[])) w fun v15 w =>
  kU P (Instr.storeAt 35 v15 v85) w fun _ w =>
  kV P (binV .eql 3 (.tmp 87) (.const (.int .i64 0)) v86 (.int .i64 0)) w fun v88 w =>
  condK v88
  (K (.bool false) w)
  (kV P (Instr.build 24 #[(0, (.bool true)), (1, (.int .u64 21477457920))]) w fun v89 w =>
  kV P (Instr.alloc 24 true (.tuple #[])) w fun v17 w =>
  kU P (Instr.storeAt 24 v17 v89) w fun _ w =>
  kV P (Instr.loadAt 24 v17) w fun v91 w =>
  kN P (callN (.func (.func 8) #[] #[]) #[v91]) w fun v92 w =>
  kV P (Instr.build 55 #[(0, v84)]) w fun v94 w =>
  kV P (Instr.makeInterface 55 v94) w fun v95 w =>
  kN P (callN (.func (.func 10) #[] #[]) #[v92, v95]) w fun v96 w =>
  kV P (Instr.extract v96 0) w fun v97 w =>
  kV P (Instr.extract v96 1) w fun v98 w =>
  kV P (Instr.alloc 42 true (.tuple #[])) w fun v18 w =>
  kV P (Instr.alloc 51 true (.tuple #[])) w fun v19 w =>
  kU P (Instr.storeAt 42 v18 v97) w fun _ w =>
  kU P (Instr.storeAt 51 v19 v98) w fun _ w =>
  kV P (Instr.loadAt 42 v18) w fun v99 w =>
  kN P (callN (.func (.func 11) #[] #[]) #[v99, v36]) w fun v101 w =>
  kV P (Instr.alloc 24 true (.tuple #[])) w fun v20 w =>
  kU P (Instr.storeAt 24 v20 v101) w fun _ w =>
  kV P (Instr.loadAt 24 v20) w fun v103 w =>
  kN P (callN (.func (.func 15) #[] #[]) #[v103]) w fun v104 w =>
  kV P (Instr.extract v104 0) w fun v105 w =>
  kV P (Instr.extract v104 1) w fun v106 w =>
  kV P (Instr.alloc 28 true (.tuple #[])) w fun v21 w =>
  kU P (Instr.storeAt 28 v21 v105) w fun _ w =>
  kV P (Instr.loadAt 42 v18) w fun v108 w =>
  kV P (Instr.build 55 #[(0, v84)]) w fun v110 w =>
  kV P (Instr.makeInterface 55 v110) w fun v111 w =>
  kN P (callN (.func (.func 10) #[] #[]) #[v108, v111]) w fun v112 w =>
  kV P (Instr.extract v112 0) w fun v113 w =>
  kV P (Instr.extract v112 1) w fun v114 w =>
  kV P (Instr.alloc 42 true (.tuple #[])) w fun v23 w =>
  kV P (Instr.alloc 51 true (.tuple #[])) w fun v24 w =>
  kU P (Instr.storeAt 42 v23 v113) w fun _ w =>
  kU P (Instr.storeAt 51 v24 v114) w fun _ w =>
  joinL (fun J2 =>
  drewK (fun w =>
  relX fun R5 =>
  postX R5 (fun p5_115 => allX R5 w fun V5 w => True → kV P (Instr.fieldAt 51 v19 0) w (okX R5 w p5_115)) fun p5_115 =>
  postX R5 (fun p5_116 => allX R5 w fun V5 w => p5_115 (V5 115) w ∧ True → kV P (Instr.loadAt 3 (V5 115)) w (okX R5 w p5_116)) fun p5_116 =>
  postX R5 (fun p5_117 => allX R5 w fun V5 w => p5_116 (V5 116) w ∧ True → kV P (binV .neq 3 (.tmp 116) (.const (.int .i64 0)) (V5 116) (.int .i64 0)) w (okX R5 w p5_117)) fun p5_117 =>
  postX R5 (fun p5_118 => allX R5 w fun V5 w => p5_117 (V5 117) w ∧ True → (okX R5 w p5_118) (V5 117) w) fun p5_118 =>
  postX R5 (fun p5_119 => allX R5 w fun V5 w => p5_118 (V5 118) w ∧ True → gdK (yb (V5 118)) false (fun k => kV P (Instr.fieldAt 42 v18 1) w k) w (okX R5 w p5_119)) fun p5_119 =>
  postX R5 (fun p5_120 => allX R5 w fun V5 w => p5_118 (V5 118) w ∧ p5_119 (V5 119) w ∧ True → gdK (yb (V5 118)) false (fun k => kV P (Instr.fieldAt 24 (V5 119) 2) w k) w (okX R5 w p5_120)) fun p5_120 =>
  postX R5 (fun p5_121 => allX R5 w fun V5 w => p5_118 (V5 118) w ∧ p5_120 (V5 120) w ∧ True → gdK (yb (V5 118)) false (fun k => kV P (Instr.loadAt 22 (V5 120)) w k) w (okX R5 w p5_121)) fun p5_121 =>
  postX R5 (fun p5_122 => allX R5 w fun V5 w => p5_118 (V5 118) w ∧ True → gdK (yb (V5 118)) false (fun k => k v33 w) w (okX R5 w p5_122)) fun p5_122 =>
  postX R5 (fun p5_123 => allX R5 w fun V5 w => p5_118 (V5 118) w ∧ p5_122 (V5 122) w ∧ True → gdK (yb (V5 118)) false (fun k => kV P (binV .mul 3 (.const (.int .i64 4)) (.tmp 122) (.int .i64 4) (V5 122)) w k) w (okX R5 w p5_123)) fun p5_123 =>
  postX R5 (fun p5_124 => allX R5 w fun V5 w => p5_118 (V5 118) w ∧ p5_123 (V5 123) w ∧ True → gdK (yb (V5 118)) false (fun k => kV P (convert 3 22 (V5 123)) w k) w (okX R5 w p5_124)) fun p5_124 =>
  postX R5 (fun p5_125 => allX R5 w fun V5 w => p5_118 (V5 118) w ∧ p5_121 (V5 121) w ∧ p5_124 (V5 124) w ∧ True → gdK (yb (V5 118)) false (fun k => kV P (binV .neq 22 (.tmp 121) (.tmp 124) (V5 121) (V5 124)) w k) w (okX R5 w p5_125)) fun p5_125 =>
  postX R5 (fun p5_126 => allX R5 w fun V5 w => p5_118 (V5 118) w ∧ p5_125 (V5 125) w ∧ True → kN P (pickN (V5 118) (.bool true) (V5 125)) w (okX R5 w p5_126)) fun p5_126 =>
  postX R5 (fun p5_127 => allX R5 w fun V5 w => p5_118 (V5 118) w ∧ p5_126 (V5 126) w ∧ True → (okX R5 w p5_127) (V5 126) w) fun p5_127 =>
  postX R5 (fun p5_128 => allX R5 w fun V5 w => p5_127 (V5 127) w ∧ True → gdK (yb (V5 127)) false (fun k => kV P (Instr.fieldAt 28 v21 2) w k) w (okX R5 w p5_128)) fun p5_128 =>
  postX R5 (fun p5_129 => allX R5 w fun V5 w => p5_127 (V5 127) w ∧ p5_128 (V5 128) w ∧ True → gdK (yb (V5 127)) false (fun k => kV P (Instr.loadAt 22 (V5 128)) w k) w (okX R5 w p5_129)) fun p5_129 =>
  postX R5 (fun p5_130 => allX R5 w fun V5 w => p5_127 (V5 127) w ∧ p5_129 (V5 129) w ∧ True → gdK (yb (V5 127)) false (fun k => kV P (binV .neq 22 (.tmp 129) (.const (.int .u64 1)) (V5 129) (.int .u64 1)) w k) w (okX R5 w p5_130)) fun p5_130 =>
  postX R5 (fun p5_131 => allX R5 w fun V5 w => p5_127 (V5 127) w ∧ p5_130 (V5 130) w ∧ True → kN P (pickN (V5 127) (.bool true) (V5 130)) w (okX R5 w p5_131)) fun p5_131 =>
  postX R5 (fun p5_132 => allX R5 w fun V5 w => p5_127 (V5 127) w ∧ p5_131 (V5 131) w ∧ True → (okX R5 w p5_132) (V5 131) w) fun p5_132 =>
  postX R5 (fun p5_133 => allX R5 w fun V5 w => p5_132 (V5 132) w ∧ True → gdK (yb (V5 132)) false (fun k => kV P (Instr.fieldAt 51 v24 0) w k) w (okX R5 w p5_133)) fun p5_133 =>
  postX R5 (fun p5_134 => allX R5 w fun V5 w => p5_132 (V5 132) w ∧ p5_133 (V5 133) w ∧ True → gdK (yb (V5 132)) false (fun k => kV P (Instr.loadAt 3 (V5 133)) w k) w (okX R5 w p5_134)) fun p5_134 =>
  postX R5 (fun p5_135 => allX R5 w fun V5 w => p5_132 (V5 132) w ∧ p5_134 (V5 134) w ∧ True → gdK (yb (V5 132)) false (fun k => kV P (binV .neq 3 (.tmp 134) (.const (.int .i64 0)) (V5 134) (.int .i64 0)) w k) w (okX R5 w p5_135)) fun p5_135 =>
  postX R5 (fun p5_136 => allX R5 w fun V5 w => p5_132 (V5 132) w ∧ p5_135 (V5 135) w ∧ True → kN P (pickN (V5 132) (.bool true) (V5 135)) w (okX R5 w p5_136)) fun p5_136 =>
  postX R5 (fun p5_137 => allX R5 w fun V5 w => p5_132 (V5 132) w ∧ p5_136 (V5 136) w ∧ True → (okX R5 w p5_137) (V5 136) w) fun p5_137 =>
  postX R5 (fun p5_138 => allX R5 w fun V5 w => p5_137 (V5 137) w ∧ True → gdK (yb (V5 137)) false (fun k => kV P (Instr.fieldAt 42 v23 1) w k) w (okX R5 w p5_138)) fun p5_138 =>
  postX R5 (fun p5_139 => allX R5 w fun V5 w => p5_137 (V5 137) w ∧ p5_138 (V5 138) w ∧ True → gdK (yb (V5 137)) false (fun k => kV P (Instr.loadAt 24 (V5 138)) w k) w (okX R5 w p5_139)) fun p5_139 =>
  postX R5 (fun p5_140 => allX R5 w fun V5 w => p5_137 (V5 137) w ∧ True → gdK (yb (V5 137)) false (fun k => kV P (Instr.loadAt 24 v17) w k) w (okX R5 w p5_140)) fun p5_140 =>
  postX R5 (fun p5_141 => allX R5 w fun V5 w => p5_137 (V5 137) w ∧ p5_140 (V5 140) w ∧ True → gdK (yb (V5 137)) false (fun k => kN P (callN (.func (.func 16) #[] #[]) #[(V5 140), (.int .u64 4)]) w k) w (okX R5 w p5_141)) fun p5_141 =>
  postX R5 (fun p5_142 => allX R5 w fun V5 w => p5_137 (V5 137) w ∧ p5_139 (V5 139) w ∧ p5_141 (V5 141) w ∧ True → gdK (yb (V5 137)) false (fun k => kV P (binV .neq 24 (.tmp 139) (.tmp 141) (V5 139) (V5 141)) w k) w (okX R5 w p5_142)) fun p5_142 =>
  postX R5 (fun p5_143 => allX R5 w fun V5 w => p5_137 (V5 137) w ∧ p5_142 (V5 142) w ∧ True → kN P (pickN (V5 137) (.bool true) (V5 142)) w (okX R5 w p5_143)) fun p5_143 =>
  allX R5 w fun V5 w => p5_115 (V5 115) w ∧ p5_116 (V5 116) w ∧ p5_117 (V5 117) w ∧ p5_118 (V5 118) w ∧ p5_119 (V5 119) w ∧ p5_120 (V5 120) w ∧ p5_121 (V5 121) w ∧ p5_122 (V5 122) w ∧ p5_123 (V5 123) w ∧ p5_124 (V5 124) w ∧ p5_125 (V5 125) w ∧ p5_126 (V5 126) w ∧ p5_127 (V5 127) w ∧ p5_128 (V5 128) w ∧ p5_129 (V5 129) w ∧ p5_130 (V5 130) w ∧ p5_131 (V5 131) w ∧ p5_132 (V5 132) w ∧ p5_133 (V5 133) w ∧ p5_134 (V5 134) w ∧ p5_135 (V5 135) w ∧ p5_136 (V5 136) w ∧ p5_137 (V5 137) w ∧ p5_138 (V5 138) w ∧ p5_139 (V5 139) w ∧ p5_140 (V5 140) w ∧ p5_141 (V5 141) w ∧ p5_142 (V5 142) w ∧ p5_143 (V5 143) w ∧ True → xDist V5 [] →
  J2 [(V5 143)] w) w) fun s2 w => ∀ _ : Nat → Value,
  condK (s2.getD 0 undef)
  (K (.bool false) w)
  (kV P (Instr.loadAt 42 v23) w fun v144 w =>
  kN P (callN (.func (.func 11) #[] #[]) #[v144, (.int .i64 20)]) w fun v145 w =>
  kV P (Instr.alloc 24 true (.tuple #[])) w fun v25 w =>
  kU P (Instr.storeAt 24 v25 v145) w fun _ w =>
  kV P (Instr.indexAt 39 v72 v33) w fun v149 w =>
  kU P (Instr.storeAt 38 v149 v58) w fun _ w =>
  kV P (Instr.build 45 #[(0, v72)]) w fun v152 w =>
  kN P (callN (.func (.func 7) #[] #[]) #[v152]) w fun v153 w =>
  kV P (Instr.extract v153 0) w fun v154 w =>
  kV P (Instr.extract v153 1) w fun v155 w =>
  kV P (Instr.extract v153 2) w fun v156 w =>
  kV P (Instr.alloc 35 true (.tuple #[])) w fun v27 w =>
  kU P (Instr.storeAt 35 v27 v155) w fun _ w =>
  kV P (Instr.loadAt 42 v18) w fun v158 w =>
  kV P (Instr.build 55 #[(0, v154)]) w fun v160 w =>
  kV P (Instr.makeInterface 55 v160) w fun v161 w =>
  kN P (callN (.func (.func 10) #[] #[]) #[v158, v161]) w fun v162 w =>
  kV P (Instr.extract v162 0) w fun v163 w =>
  kV P (Instr.extract v162 1) w fun v164 w =>
  kV P (Instr.alloc 42 true (.tuple #[])) w fun v29 w =>
  kV P (Instr.alloc 51 true (.tuple #[])) w fun v30 w =>
  kU P (Instr.storeAt 42 v29 v163) w fun _ w =>
  kU P (Instr.storeAt 51 v30 v164) w fun _ w =>
  drewK (fun w =>
  relX fun R4 =>
  postX R4 (fun p4_165 => allX R4 w fun V4 w => True → kV P (Instr.loadAt 24 v25) w (okX R4 w p4_165)) fun p4_165 =>
  postX R4 (fun p4_166 => allX R4 w fun V4 w => p4_165 (V4 165) w ∧ True → kN P (callN (.func (.func 17) #[] #[]) #[(V4 165)]) w (okX R4 w p4_166)) fun p4_166 =>
  postX R4 (fun p4_167 => allX R4 w fun V4 w => True → kV P (Instr.loadAt 24 v17) w (okX R4 w p4_167)) fun p4_167 =>
  postX R4 (fun p4_168 => allX R4 w fun V4 w => True → (okX R4 w p4_168) v33 w) fun p4_168 =>
  postX R4 (fun p4_169 => allX R4 w fun V4 w => p4_168 (V4 168) w ∧ True → kV P (binV .mul 3 (.const (.int .i64 4)) (.tmp 168) (.int .i64 4) (V4 168)) w (okX R4 w p4_169)) fun p4_169 =>
  postX R4 (fun p4_170 => allX R4 w fun V4 w => p4_169 (V4 169) w ∧ True → kV P (binV .add 3 (.tmp 169) (.const (.int .i64 4)) (V4 169) (.int .i64 4)) w (okX R4 w p4_170)) fun p4_170 =>
  postX R4 (fun p4_171 => allX R4 w fun V4 w => p4_170 (V4 170) w ∧ True → kV P (convert 3 22 (V4 170)) w (okX R4 w p4_171)) fun p4_171 =>
  postX R4 (fun p4_172 => allX R4 w fun V4 w => p4_166 (V4 166) w ∧ p4_167 (V4 167) w ∧ p4_171 (V4 171) w ∧ True → kN P (callN (.func (.func 16) #[] #[]) #[(V4 167), (V4 171)]) w (okX R4 w p4_172)) fun p4_172 =>
  postX R4 (fun p4_173 => allX R4 w fun V4 w => p4_166 (V4 166) w ∧ p4_172 (V4 172) w ∧ True → kV P (binV .eql 24 (.tmp 166) (.tmp 172) (V4 166) (V4 172)) w (okX R4 w p4_173)) fun p4_173 =>
  postX R4 (fun p4_174 => allX R4 w fun V4 w => p4_172 (V4 172) w ∧ p4_173 (V4 173) w ∧ True → (okX R4 w p4_174) (V4 173) w) fun p4_174 =>
  postX R4 (fun p4_175 => allX R4 w fun V4 w => p4_174 (V4 174) w ∧ True → gdK (yb (V4 174)) true (fun k => kV P (Instr.fieldAt 51 v30 0) w k) w (okX R4 w p4_175)) fun p4_175 =>
  postX R4 (fun p4_176 => allX R4 w fun V4 w => p4_174 (V4 174) w ∧ p4_175 (V4 175) w ∧ True → gdK (yb (V4 174)) true (fun k => kV P (Instr.loadAt 3 (V4 175)) w k) w (okX R4 w p4_176)) fun p4_176 =>
  postX R4 (fun p4_177 => allX R4 w fun V4 w => p4_174 (V4 174) w ∧ p4_176 (V4 176) w ∧ True → gdK (yb (V4 174)) true (fun k => kV P (binV .eql 3 (.tmp 176) (.const (.int .i64 5)) (V4 176) (.int .i64 5)) w k) w (okX R4 w p4_177)) fun p4_177 =>
  postX R4 (fun p4_178 => allX R4 w fun V4 w => p4_174 (V4 174) w ∧ p4_177 (V4 177) w ∧ True → kN P (pickN (V4 174) (V4 177) (.bool false)) w (okX R4 w p4_178)) fun p4_178 =>
  postX R4 (fun p4_179 => allX R4 w fun V4 w => p4_174 (V4 174) w ∧ p4_178 (V4 178) w ∧ True → (okX R4 w p4_179) (V4 178) w) fun p4_179 =>
  postX R4 (fun p4_180 => allX R4 w fun V4 w => p4_179 (V4 179) w ∧ True → gdK (yb (V4 179)) true (fun k => kV P (Instr.fieldAt 51 v30 1) w k) w (okX R4 w p4_180)) fun p4_180 =>
  postX R4 (fun p4_181 => allX R4 w fun V4 w => p4_179 (V4 179) w ∧ p4_180 (V4 180) w ∧ True → gdK (yb (V4 179)) true (fun k => kV P (Instr.loadAt 3 (V4 180)) w k) w (okX R4 w p4_181)) fun p4_181 =>
  postX R4 (fun p4_182 => allX R4 w fun V4 w => p4_179 (V4 179) w ∧ p4_181 (V4 181) w ∧ True → gdK (yb (V4 179)) true (fun k => kV P (binV .eql 3 (.tmp 181) (.const (.int .i64 2)) (V4 181) (.int .i64 2)) w k) w (okX R4 w p4_182)) fun p4_182 =>
  postX R4 (fun p4_183 => allX R4 w fun V4 w => p4_179 (V4 179) w ∧ p4_182 (V4 182) w ∧ True → kN P (pickN (V4 179) (V4 182) (.bool false)) w (okX R4 w p4_183)) fun p4_183 =>
  postX R4 (fun p4_184 => allX R4 w fun V4 w => p4_179 (V4 179) w ∧ p4_183 (V4 183) w ∧ True → (okX R4 w p4_184) (V4 183) w) fun p4_184 =>
  postX R4 (fun p4_185 => allX R4 w fun V4 w => p4_184 (V4 184) w ∧ True → gdK (yb (V4 184)) true (fun k => kN P (callN (.func (.func 12) #[] #[]) #[]) w k) w (okX R4 w p4_185)) fun p4_185 =>
  postX R4 (fun p4_186 => allX R4 w fun V4 w => p4_184 (V4 184) w ∧ p4_185 (V4 185) w ∧ True → kN P (pickN (V4 184) (V4 185) (.bool false)) w (okX R4 w p4_186)) fun p4_186 =>
  allX R4 w fun V4 w => p4_165 (V4 165) w ∧ p4_166 (V4 166) w ∧ p4_167 (V4 167) w ∧ p4_168 (V4 168) w ∧ p4_169 (V4 169) w ∧ p4_170 (V4 170) w ∧ p4_171 (V4 171) w ∧ p4_172 (V4 172) w ∧ p4_173 (V4 173) w ∧ p4_174 (V4 174) w ∧ p4_175 (V4 175) w ∧ p4_176 (V4 176) w ∧ p4_177 (V4 177) w ∧ p4_178 (V4 178) w ∧ p4_179 (V4 179) w ∧ p4_180 (V4 180) w ∧ p4_181 (V4 181) w ∧ p4_182 (V4 182) w ∧ p4_183 (V4 183) w ∧ p4_184 (V4 184) w ∧ p4_185 (V4 185) w ∧ p4_186 (V4 186) w ∧ True → xDist V4 [] →
  K (V4 186) w) w)))
theorem F5_eq (P : Program) (t0 t1 t2 : Value) (w : World) (K : Value → World → Prop) : funE P ⟨[(18, 1029), (24, 1022)], [], [(19, [143])]⟩ Tryz.f5 [t0, t1, t2] w K = F5 P t0 t1 t2 w K := by kernel_rfl
theorem F5_ok (t0 t1 t2 : Value) (w : World) (K : Value → World → Prop) (h : F5 Tryz.prog t0 t1 t2 w K) : callsK Tryz.prog 5 #[t0, t1, t2] w K := calls_of_eq mixedJ Tryz.func5 (F5_eq _ t0 t1 t2 w K) h

/-- mintmark/inst.Encode -/
def F14 (P : Program) (t0 : Value) (w : World) (K : Value → World → Prop) : Prop :=
  kV P (Instr.box 49 t0) w fun v1 w =>
  kV P (Instr.fieldAt 49 v1 0) w fun v14 w =>
  kV P (Instr.loadAt 3 v14) w fun v15 w =>
  kN P (callN (.func (.func 34) #[] #[]) #[v15]) w fun v16 w =>
  kV P (Instr.extract v16 0) w fun v17 w =>
  kV P (Instr.extract v16 1) w fun v18 w =>
  kV P (Instr.alloc 101 true (.tuple #[])) w fun v4 w =>
  kU P (Instr.storeAt 101 v4 v17) w fun _ w =>
  joinL (fun J0 =>
  drewK (fun w =>
  pV P (Op.unary .not v18) fun v20 =>
  gdP (yb v20) false (fun k => pV P (Instr.fieldAt 101 v4 1) k) fun v22 =>
  gdP (yb v20) false (fun k => pV P (Instr.fieldAt 49 v1 4) k) fun v25 =>
  (gdK (yb v20) false (fun k => kV P (Instr.loadAt 5 v22) w k) w fun v23 w =>
  (gdK (yb v20) false (fun k => kN P (callN (.func (.func 35) #[] #[]) #[v23]) w k) w fun v24 w =>
  gdK (yb v20) false (fun k => kV P (Instr.loadAt 2 v25) w k) w fun v26 w =>
  gdK (yb v20) false (fun k => kN P (callN (.func (.func 36) #[] #[]) #[v24, v26]) w k) w fun v27 w =>
  gdP (yb v20) false (fun k => pV P (Op.unary .not v27) k) fun v28 =>
  pN P (pickN v20 (.bool true) v28) fun v29 =>
  J0 [v29] w) ∧
  (gdK (yb v20) false (fun k => kV P (Instr.loadAt 2 v25) w k) w fun v26_1 w =>
  gdK (yb v20) false (fun k => kN P (callN (.func (.func 35) #[] #[]) #[v23]) w k) w fun v24_1 w =>
  gdK (yb v20) false (fun k => kN P (callN (.func (.func 36) #[] #[]) #[v24_1, v26_1]) w k) w fun v27_1 w =>
  gdP (yb v20) false (fun k => pV P (Op.unary .not v27_1) k) fun v28_1 =>
  pN P (pickN v20 (.bool true) v28_1) fun v29_1 =>
  J0 [v29_1] w)) ∧
  (gdK (yb v20) false (fun k => kV P (Instr.loadAt 2 v25) w k) w fun v26_2 w =>
  gdK (yb v20) false (fun k => kV P (Instr.loadAt 5 v22) w k) w fun v23_1 w =>
  gdK (yb v20) false (fun k => kN P (callN (.func (.func 35) #[] #[]) #[v23_1]) w k) w fun v24_2 w =>
  gdK (yb v20) false (fun k => kN P (callN (.func (.func 36) #[] #[]) #[v24_2, v26_2]) w k) w fun v27_2 w =>
  gdP (yb v20) false (fun k => pV P (Op.unary .not v27_2) k) fun v28_2 =>
  pN P (pickN v20 (.bool true) v28_2) fun v29_2 =>
  J0 [v29_2] w)) w) fun s0 w => ∀ _ : Nat → Value,
  condK (s0.getD 0 undef)
  (K (.tuple #[(.int .u32 0), (.bool false)]) w)
  (kV P (Instr.loadAt 101 v4) w fun v31 w =>
  kN P (callN (.func (.func 37) #[] #[]) #[v31]) w fun v32 w =>
  kV P (Instr.extract v32 0) w fun v33 w =>
  kV P (Instr.extract v32 1) w fun v34 w =>
  kV P (Instr.fieldAt 101 v4 1) w fun v36 w =>
  kV P (Instr.loadAt 5 v36) w fun v37 w =>
  kN P (callN (.func (.func 38) #[] #[]) #[v37]) w fun v38 w =>
  kV P (Instr.extract v38 0) w fun v39 w =>
  kV P (Instr.extract v38 1) w fun v40 w =>
  kV P (Instr.extract v38 2) w fun v41 w =>
  joinL (fun J2 =>
  drewK (fun w =>
  pV P (Instr.fieldAt 101 v4 1) fun v42 =>
  pV P (Instr.fieldAt 49 v1 4) fun v46 =>
  (kV P (Instr.loadAt 5 v42) w fun v43 w =>
  (kN P (callN (.func (.func 35) #[] #[]) #[v43]) w fun v44 w =>
  kV P (Instr.loadAt 2 v46) w fun v47 w =>
  kN P (callN (.func (.func 39) #[] #[]) #[v44, v33, v47]) w fun v48 w =>
  J2 [v48] w) ∧
  (kV P (Instr.loadAt 2 v46) w fun v47_1 w =>
  kN P (callN (.func (.func 35) #[] #[]) #[v43]) w fun v44_1 w =>
  kN P (callN (.func (.func 39) #[] #[]) #[v44_1, v33, v47_1]) w fun v48_1 w =>
  J2 [v48_1] w)) ∧
  (kV P (Instr.loadAt 2 v46) w fun v47_2 w =>
  kV P (Instr.loadAt 5 v42) w fun v43_1 w =>
  kN P (callN (.func (.func 35) #[] #[]) #[v43_1]) w fun v44_2 w =>
  kN P (callN (.func (.func 39) #[] #[]) #[v44_2, v33, v47_2]) w fun v48_2 w =>
  J2 [v48_2] w)) w) fun s2 w => ∀ _ : Nat → Value,
  kV P (Instr.fieldAt 49 v1 1) w fun v50 w =>
  kV P (Instr.loadAt 3 v50) w fun v51 w =>
  kV P (Instr.build 114 #[(0, v39), (1, (.int .i64 7)), (2, v51)]) w fun v52 w =>
  kV P (Instr.fieldAt 49 v1 2) w fun v54 w =>
  kV P (Instr.loadAt 3 v54) w fun v55 w =>
  kV P (Instr.build 114 #[(0, v40), (1, (.int .i64 15)), (2, v55)]) w fun v56 w =>
  kV P (Instr.fieldAt 49 v1 3) w fun v58 w =>
  kV P (Instr.loadAt 3 v58) w fun v59 w =>
  kV P (Instr.build 114 #[(0, v41), (1, (.int .i64 20)), (2, v59)]) w fun v60 w =>
  kV P (Instr.build 115 #[(0, v52), (1, v56), (2, v60)]) w fun v61 w =>
  loopT (fun R4 s4 w => ∀ _ : Nat → Value,
  kV P (binV .lss 3 (.tmp 62) (.const (.int .i64 3)) (s4.getD 1 undef) (.int .i64 3)) w fun v63 w =>
  condK v63
  (joinL (fun J6 =>
  kV P (Instr.index 115 v61 (s4.getD 1 undef)) w fun v64 w =>
  kV P (Instr.alloc 114 true (.tuple #[])) w fun v12 w =>
  kU P (Instr.storeAt 114 v12 v64) w fun _ w =>
  kV P (Instr.fieldAt 114 v12 0) w fun v65 w =>
  kV P (Instr.loadAt 4 v65) w fun v66 w =>
  joinK (fun J8 : Value → World → Prop => gdK (yb v66) true (fun k => kV P (Instr.fieldAt 114 v12 2) w k) w fun v68 w =>
  gdK (yb v66) true (fun k => kV P (Instr.loadAt 3 v68) w k) w fun v69 w =>
  gdK (yb v66) true (fun k => kN P (callN (.func (.func 40) #[] #[]) #[v69, (.int .i64 5), (.bool false)]) w k) w fun v70 w =>
  gdK (yb v66) true (fun k => kV P (Op.unary .not v70) w k) w fun v71 w =>
  kN P (pickN v66 v71 (.bool false)) w fun v72_1 w =>
  J8 v72_1 w) fun v72 w =>
  condK v72
  (K (.tuple #[(.int .u32 0), (.bool false)]) w)
  (kV P (Instr.fieldAt 114 v12 0) w fun v73 w =>
  kV P (Instr.loadAt 4 v73) w fun v74 w =>
  condK v74
  (kV P (Instr.fieldAt 114 v12 1) w fun v76 w =>
  kV P (Instr.loadAt 3 v76) w fun v77 w =>
  kV P (Instr.fieldAt 114 v12 2) w fun v78 w =>
  kV P (Instr.loadAt 3 v78) w fun v79 w =>
  kV P (convert 3 22 v79) w fun v80 w =>
  kN P (callN (.func (.func 41) #[] #[]) #[(s4.getD 0 undef), v77, (.int .i64 5), v80]) w fun v81 w =>
  J6 [v81] w)
  (J6 [(s4.getD 0 undef)] w))) fun s6 w => ∀ _ : Nat → Value,
  kV P (binV .add 3 (.tmp 62) (.const (.int .i64 1)) (s4.getD 1 undef) (.int .i64 1)) w fun v82 w =>
  R4 [(s6.getD 0 undef), v82] w)
  (kV P (convert 22 38 (s4.getD 0 undef)) w fun v84 w =>
  K (.tuple #[v84, (.bool true)]) w)) [(s2.getD 0 undef), (.int .i64 0)] w)
theorem F14_eq (P : Program) (t0 : Value) (w : World) (K : Value → World → Prop) : funE P ⟨[(2, 999), (6, 999)], [(8, [6, 62])], [(3, [29]), (7, [6]), (14, [6])]⟩ Tryz.f14 [t0] w K = F14 P t0 w K := by kernel_rfl
theorem F14_ok (t0 : Value) (w : World) (K : Value → World → Prop) (h : F14 Tryz.prog t0 w K) : callsK Tryz.prog 14 #[t0] w K := calls_of_eq mixedJ Tryz.func14 (F14_eq _ t0 w K) h

/-- mintmark/algebra.Open -/
def F17 (P : Program) (t0 : Value) (w : World) (K : Value → World → Prop) : Prop :=
  kV P (Instr.box 24 t0) w fun v1 w =>
  kV P (Instr.alloc 24 true (.tuple #[])) w fun v2 w =>
  kV P (Instr.loadAt 24 v1) w fun v4 w =>
  kN P (callN (.func (.func 45) #[] #[]) #[v4]) w fun v5 w =>
  kV P (Instr.alloc 121 true (.tuple #[])) w fun v3 w =>
  kU P (Instr.storeAt 121 v3 v5) w fun _ w =>
  kV P (Instr.fieldAt 121 v3 2) w fun v6 w =>
  kV P (Instr.loadAt 4 v6) w fun v7 w =>
  kV P (Op.unary .not v7) w fun v8 w =>
  joinK (fun J0 : Value → World → Prop => gdK (yb v8) false (fun k => kV P (Instr.fieldAt 121 v3 1) w k) w fun v10 w =>
  gdK (yb v8) false (fun k => kV P (Instr.fieldAt 28 v10 2) w k) w fun v11 w =>
  gdK (yb v8) false (fun k => kV P (Instr.loadAt 22 v11) w k) w fun v12 w =>
  gdK (yb v8) false (fun k => kV P (binV .neq 22 (.tmp 12) (.const (.int .u64 1)) v12 (.int .u64 1)) w k) w fun v13 w =>
  kN P (pickN v8 (.bool true) v13) w fun v14_1 w =>
  J0 v14_1 w) fun v14 w =>
  condK v14
  (kV P (Instr.loadAt 24 v1) w fun v15 w =>
  kU P (Instr.storeAt 24 v2 v15) w fun _ w =>
  retV P 24 v2 w fun r1 =>
  K r1 w)
  (kV P (Instr.loadAt 121 v3) w fun v16 w =>
  kN P (callN (.func (.func 46) #[] #[]) #[v16, (.bool true), (.int .u64 0)]) w fun v17 w =>
  kU P (Instr.storeAt 24 v2 v17) w fun _ w =>
  retV P 24 v2 w fun r2 =>
  K r2 w)
theorem F17_eq (P : Program) (t0 : Value) (w : World) (K : Value → World → Prop) : funE P ⟨[], [], []⟩ Tryz.f17 [t0] w K = F17 P t0 w K := by kernel_rfl
theorem F17_ok (t0 : Value) (w : World) (K : Value → World → Prop) (h : F17 Tryz.prog t0 w K) : callsK Tryz.prog 17 #[t0] w K := calls_of_eq mixedJ Tryz.func17 (F17_eq _ t0 w K) h

/-- mintmark/inst.of -/
def F34 (P : Program) (t0 : Value) (w : World) (K : Value → World → Prop) : Prop :=
  kV P (Instr.alloc 101 true (.tuple #[])) w fun v2 w =>
  kV P (binV .lss 3 (.tmp 4) (.const (.int .i64 1)) t0 (.int .i64 1)) w fun v5 w =>
  joinK (fun J0 : Value → World → Prop => gdK (yb v5) false (fun k => k t0 w) w fun v7 w =>
  gdK (yb v5) false (fun k => kV P (binV .gtr 3 (.tmp 7) (.const (.int .i64 69)) v7 (.int .i64 69)) w k) w fun v8 w =>
  kN P (pickN v5 (.bool true) v8) w fun v9_1 w =>
  J0 v9_1 w) fun v9 w =>
  condK v9
  (kV P (Instr.build 101 #[]) w fun v10 w =>
  kU P (Instr.storeAt 101 v2 v10) w fun _ w =>
  retV P 101 v2 w fun r1 =>
  K (.tuple #[r1, (.bool false)]) w)
  (kN P (callN (.func (.func 68) #[] #[]) #[]) w fun v11 w =>
  kV P (binV .sub 3 (.tmp 12) (.const (.int .i64 1)) t0 (.int .i64 1)) w fun v13 w =>
  kV P (Instr.index 160 v11 v13) w fun v14 w =>
  kU P (Instr.storeAt 101 v2 v14) w fun _ w =>
  retV P 101 v2 w fun r2 =>
  K (.tuple #[r2, (.bool true)]) w)
theorem F34_eq (P : Program) (t0 : Value) (w : World) (K : Value → World → Prop) : funE P ⟨[], [], []⟩ Tryz.f34 [t0] w K = F34 P t0 w K := by kernel_rfl
theorem F34_ok (t0 : Value) (w : World) (K : Value → World → Prop) (h : F34 Tryz.prog t0 w K) : callsK Tryz.prog 34 #[t0] w K := calls_of_eq mixedJ Tryz.func34 (F34_eq _ t0 w K) h

/-- (mintmark/inst.layout).fits -/
def F36 (P : Program) (t0 t1 : Value) (w : World) (K : Value → World → Prop) : Prop :=
  kV P (Instr.box 106 t0) w fun v2 w =>
  kV P (Instr.fieldAt 106 v2 0) w fun v5 w =>
  kV P (Instr.loadAt 104 v5) w fun v6 w =>
  kV P (Builtin.len_ #[104] 3 #[v6]) w fun v7 w =>
  kV P (binV .eql 3 (.tmp 7) (.const (.int .i64 0)) v7 (.int .i64 0)) w fun v8 w =>
  joinK (fun J0 : Value → World → Prop => gdK (yb v8) false (fun k => k t1 w) w fun v10 w =>
  gdK (yb v8) false (fun k => kV P (Instr.fieldAt 106 v2 1) w k) w fun v11 w =>
  gdK (yb v8) false (fun k => kV P (Instr.loadAt 3 v11) w k) w fun v12 w =>
  gdK (yb v8) false (fun k => kV P (Instr.fieldAt 106 v2 2) w k) w fun v13 w =>
  gdK (yb v8) false (fun k => kV P (Instr.loadAt 4 v13) w k) w fun v14 w =>
  gdK (yb v8) false (fun k => kN P (callN (.func (.func 40) #[] #[]) #[v10, v12, v14]) w k) w fun v15 w =>
  gdK (yb v8) false (fun k => k v15 w) w fun v16 w =>
  gdK (yb v16) true (fun k => k t1 w) w fun v17 w =>
  gdK (yb v16) true (fun k => kV P (convert 2 22 v17) w k) w fun v18 w =>
  gdK (yb v16) true (fun k => kV P (Instr.fieldAt 106 v2 3) w k) w fun v19 w =>
  gdK (yb v16) true (fun k => kV P (Instr.loadAt 3 v19) w k) w fun v20 w =>
  gdK (yb v16) true (fun k => kN P (callN (.func (.func 81) #[] #[]) #[v20]) w k) w fun v21 w =>
  gdK (yb v16) true (fun k => kV P (binV .and 22 (.tmp 18) (.tmp 21) v18 v21) w k) w fun v22 w =>
  gdK (yb v16) true (fun k => kV P (binV .eql 22 (.tmp 22) (.const (.int .u64 0)) v22 (.int .u64 0)) w k) w fun v23 w =>
  gdK (yb v8) false (fun k => kN P (pickN v16 v23 (.bool false)) w k) w fun v24 w =>
  kN P (pickN v8 (.bool true) v24) w fun v25_1 w =>
  J0 v25_1 w) fun v25 w =>
  K v25 w
theorem F36_eq (P : Program) (t0 t1 : Value) (w : World) (K : Value → World → Prop) : funE P ⟨[], [], []⟩ Tryz.f36 [t0, t1] w K = F36 P t0 t1 w K := by kernel_rfl
theorem F36_ok (t0 t1 : Value) (w : World) (K : Value → World → Prop) (h : F36 Tryz.prog t0 t1 w K) : callsK Tryz.prog 36 #[t0, t1] w K := calls_of_eq mixedJ Tryz.func36 (F36_eq _ t0 t1 w K) h

/-- (mintmark/inst.layout).lay -/
def F39 (P : Program) (t0 t1 t2 : Value) (w : World) (K : Value → World → Prop) : Prop :=
  kV P (Instr.box 106 t0) w fun v3 w =>
  kV P (Instr.fieldAt 106 v3 0) w fun v9 w =>
  kV P (Instr.loadAt 104 v9) w fun v10 w =>
  kV P (Builtin.len_ #[104] 3 #[v10]) w fun v11 w =>
  loopT (fun R0 s0 w => ∀ _ : Nat → Value,
  kV P (binV .lss 3 (.tmp 12) (.tmp 11) (s0.getD 1 undef) v11) w fun v13 w =>
  condK v13
  (joinL (fun J2 =>
  kV P (Instr.indexAt 104 v10 (s0.getD 1 undef)) w fun v14 w =>
  kV P (Instr.loadAt 169 v14) w fun v15 w =>
  kV P (Instr.alloc 169 true (.tuple #[])) w fun v8 w =>
  kU P (Instr.storeAt 169 v8 v15) w fun _ w =>
  drewK (fun w =>
  relX fun R4 =>
  postX R4 (fun p4_16 => allX R4 w fun V4 w => True → (okX R4 w p4_16) (s0.getD 0 undef) w) fun p4_16 =>
  postX R4 (fun p4_17 => allX R4 w fun V4 w => True → kV P (Instr.fieldAt 169 v8 2) w (okX R4 w p4_17)) fun p4_17 =>
  postX R4 (fun p4_18 => allX R4 w fun V4 w => p4_17 (V4 17) w ∧ True → kV P (Instr.loadAt 3 (V4 17)) w (okX R4 w p4_18)) fun p4_18 =>
  postX R4 (fun p4_19 => allX R4 w fun V4 w => True → kV P (Instr.fieldAt 169 v8 1) w (okX R4 w p4_19)) fun p4_19 =>
  postX R4 (fun p4_20 => allX R4 w fun V4 w => p4_19 (V4 19) w ∧ True → kV P (Instr.loadAt 3 (V4 19)) w (okX R4 w p4_20)) fun p4_20 =>
  postX R4 (fun p4_21 => allX R4 w fun V4 w => True → (okX R4 w p4_21) t2 w) fun p4_21 =>
  postX R4 (fun p4_22 => allX R4 w fun V4 w => p4_21 (V4 21) w ∧ True → kV P (convert 2 22 (V4 21)) w (okX R4 w p4_22)) fun p4_22 =>
  postX R4 (fun p4_23 => allX R4 w fun V4 w => True → kV P (Instr.fieldAt 169 v8 0) w (okX R4 w p4_23)) fun p4_23 =>
  postX R4 (fun p4_24 => allX R4 w fun V4 w => p4_23 (V4 23) w ∧ True → kV P (Instr.loadAt 3 (V4 23)) w (okX R4 w p4_24)) fun p4_24 =>
  postX R4 (fun p4_25 => allX R4 w fun V4 w => True → kV P (Instr.fieldAt 169 v8 1) w (okX R4 w p4_25)) fun p4_25 =>
  postX R4 (fun p4_26 => allX R4 w fun V4 w => p4_25 (V4 25) w ∧ True → kV P (Instr.loadAt 3 (V4 25)) w (okX R4 w p4_26)) fun p4_26 =>
  postX R4 (fun p4_27 => allX R4 w fun V4 w => p4_22 (V4 22) w ∧ p4_24 (V4 24) w ∧ p4_26 (V4 26) w ∧ True → kN P (callN (.func (.func 43) #[] #[]) #[(V4 22), (V4 24), (V4 26)]) w (okX R4 w p4_27)) fun p4_27 =>
  allX R4 w fun V4 w => p4_16 (V4 16) w ∧ p4_17 (V4 17) w ∧ p4_18 (V4 18) w ∧ p4_19 (V4 19) w ∧ p4_20 (V4 20) w ∧ p4_21 (V4 21) w ∧ p4_22 (V4 22) w ∧ p4_23 (V4 23) w ∧ p4_24 (V4 24) w ∧ p4_25 (V4 25) w ∧ p4_26 (V4 26) w ∧ p4_27 (V4 27) w ∧ True → xDist V4 [] →
  kN P (callN (.func (.func 41) #[] #[]) #[(V4 16), (V4 18), (V4 20), (V4 27)]) w fun v28 w =>
  J2 [v28] w) w) fun s2 w => ∀ _ : Nat → Value,
  kV P (binV .add 3 (.tmp 12) (.const (.int .i64 1)) (s0.getD 1 undef) (.int .i64 1)) w fun v29 w =>
  R0 [(s2.getD 0 undef), v29] w)
  (K (s0.getD 0 undef) w)) [t1, (.int .i64 0)] w
theorem F39_eq (P : Program) (t0 t1 t2 : Value) (w : World) (K : Value → World → Prop) : funE P ⟨[(4, 1012)], [(2, [1, 12])], [(5, [1])]⟩ Tryz.f39 [t0, t1, t2] w K = F39 P t0 t1 t2 w K := by kernel_rfl
theorem F39_ok (t0 t1 t2 : Value) (w : World) (K : Value → World → Prop) (h : F39 Tryz.prog t0 t1 t2 w K) : callsK Tryz.prog 39 #[t0, t1, t2] w K := calls_of_eq mixedJ Tryz.func39 (F39_eq _ t0 t1 t2 w K) h

/-- mintmark/field.Fits -/
def F40 (P : Program) (t0 t1 t2 : Value) (w : World) (K : Value → World → Prop) : Prop :=
  kV P (binV .lss 3 (.tmp 8) (.const (.int .i64 1)) t1 (.int .i64 1)) w fun v9 w =>
  joinK (fun J0 : Value → World → Prop => gdK (yb v9) false (fun k => k t1 w) w fun v11 w =>
  gdK (yb v9) false (fun k => kV P (binV .gtr 3 (.tmp 11) (.const (.int .i64 64)) v11 (.int .i64 64)) w k) w fun v12 w =>
  kN P (pickN v9 (.bool true) v12) w fun v13_1 w =>
  J0 v13_1 w) fun v13 w =>
  condK v13
  (K (.bool false) w)
  (condK t2
  (kV P (convert 2 22 t0) w fun v17 w =>
  kN P (callN (.func (.func 83) #[] #[]) #[v17, t1]) w fun v19 w =>
  kV P (convert 2 22 t0) w fun v21 w =>
  kV P (binV .eql 22 (.tmp 19) (.tmp 21) v19 v21) w fun v22 w =>
  K v22 w)
  (kV P (binV .geq 2 (.tmp 23) (.const (.int .i64 0)) t0 (.int .i64 0)) w fun v24 w =>
  joinK (fun J1 : Value → World → Prop => gdK (yb v24) true (fun k => k t0 w) w fun v26 w =>
  gdK (yb v24) true (fun k => kV P (convert 2 22 v26) w k) w fun v27 w =>
  gdK (yb v24) true (fun k => k t1 w) w fun v28 w =>
  gdK (yb v24) true (fun k => kN P (callN (.func (.func 81) #[] #[]) #[v28]) w k) w fun v29 w =>
  gdK (yb v24) true (fun k => kV P (binV .andNot 22 (.tmp 27) (.tmp 29) v27 v29) w k) w fun v30 w =>
  gdK (yb v24) true (fun k => kV P (binV .eql 22 (.tmp 30) (.const (.int .u64 0)) v30 (.int .u64 0)) w k) w fun v31 w =>
  kN P (pickN v24 v31 (.bool false)) w fun v32_1 w =>
  J1 v32_1 w) fun v32 w =>
  K v32 w))
theorem F40_eq (P : Program) (t0 t1 t2 : Value) (w : World) (K : Value → World → Prop) : funE P ⟨[], [], []⟩ Tryz.f40 [t0, t1, t2] w K = F40 P t0 t1 t2 w K := by kernel_rfl
theorem F40_ok (t0 t1 t2 : Value) (w : World) (K : Value → World → Prop) (h : F40 Tryz.prog t0 t1 t2 w K) : callsK Tryz.prog 40 #[t0, t1, t2] w K := calls_of_eq mixedJ Tryz.func40 (F40_eq _ t0 t1 t2 w K) h

/-- (mintmark/algebra.live).typed -/
def F46 (P : Program) (t0 t1 t2 : Value) (w : World) (K : Value → World → Prop) : Prop :=
  kV P (Instr.box 121 t0) w fun v3 w =>
  kV P (Instr.alloc 24 true (.tuple #[])) w fun v6 w =>
  kV P (Op.unary .not t1) w fun v8 w =>
  condK v8
  (kV P (Instr.fieldAt 121 v3 0) w fun v9 w =>
  kV P (Instr.loadAt 24 v9) w fun v10 w =>
  kN P (callN (.func (.func 87) #[] #[]) #[v10]) w fun v11 w =>
  kU P (Instr.storeAt 24 v6 v11) w fun _ w =>
  retV P 24 v6 w fun r0 =>
  K r0 w)
  (kV P (Instr.fieldAt 121 v3 0) w fun v12 w =>
  kV P (Instr.fieldAt 24 v12 1) w fun v13 w =>
  kV P (Instr.loadAt 22 v13) w fun v14 w =>
  kV P (Instr.fieldAt 121 v3 1) w fun v15 w =>
  kV P (Instr.fieldAt 28 v15 2) w fun v16 w =>
  kV P (Instr.loadAt 22 v16) w fun v17 w =>
  kV P (binV .xor 22 (.tmp 17) (.tmp 18) v17 t2) w fun v19 w =>
  kV P (binV .shl 22 (.tmp 19) (.const (.int .u64 48)) v19 (.int .u64 48)) w fun v20 w =>
  kV P (binV .xor 22 (.tmp 14) (.tmp 20) v14 v20) w fun v21 w =>
  kV P (Instr.fieldAt 121 v3 0) w fun v22 w =>
  kV P (Instr.fieldAt 24 v22 1) w fun v23 w =>
  kU P (Instr.storeAt 22 v23 v21) w fun _ w =>
  kV P (Instr.fieldAt 121 v3 0) w fun v24 w =>
  kV P (Instr.loadAt 24 v24) w fun v25 w =>
  kU P (Instr.storeAt 24 v6 v25) w fun _ w =>
  retV P 24 v6 w fun r1 =>
  K r1 w)
theorem F46_eq (P : Program) (t0 t1 t2 : Value) (w : World) (K : Value → World → Prop) : funE P ⟨[], [], []⟩ Tryz.f46 [t0, t1, t2] w K = F46 P t0 t1 t2 w K := by kernel_rfl
theorem F46_ok (t0 t1 t2 : Value) (w : World) (K : Value → World → Prop) (h : F46 Tryz.prog t0 t1 t2 w K) : callsK Tryz.prog 46 #[t0, t1, t2] w K := calls_of_eq mixedJ Tryz.func46 (F46_eq _ t0 t1 t2 w K) h

/-- mintmark/algebra.Enter -/
def F75 (P : Program) (t0 : Value) (w : World) (K : Value → World → Prop) : Prop :=
  kV P (Instr.box 24 t0) w fun v1 w =>
  kV P (Instr.alloc 24 true (.tuple #[])) w fun v2 w =>
  kV P (Instr.loadAt 24 v1) w fun v4 w =>
  kN P (callN (.func (.func 45) #[] #[]) #[v4]) w fun v5 w =>
  kV P (Instr.alloc 121 true (.tuple #[])) w fun v3 w =>
  kU P (Instr.storeAt 121 v3 v5) w fun _ w =>
  drewK (fun w =>
  relX fun R0 =>
  postX R0 (fun p0_6 => allX R0 w fun V0 w => True → kV P (Instr.loadAt 121 v3) w (okX R0 w p0_6)) fun p0_6 =>
  postX R0 (fun p0_7 => allX R0 w fun V0 w => True → kV P (Instr.loadAt 121 v3) w (okX R0 w p0_7)) fun p0_7 =>
  postX R0 (fun p0_8 => allX R0 w fun V0 w => p0_7 (V0 7) w ∧ True → kN P (callN (.func (.func 64) #[] #[]) #[(V0 7)]) w (okX R0 w p0_8)) fun p0_8 =>
  postX R0 (fun p0_9 => allX R0 w fun V0 w => p0_8 (V0 8) w ∧ True → (okX R0 w p0_9) (V0 8) w) fun p0_9 =>
  postX R0 (fun p0_10 => allX R0 w fun V0 w => p0_9 (V0 9) w ∧ True → gdK (yb (V0 9)) true (fun k => kV P (Instr.fieldAt 121 v3 1) w k) w (okX R0 w p0_10)) fun p0_10 =>
  postX R0 (fun p0_11 => allX R0 w fun V0 w => p0_9 (V0 9) w ∧ p0_10 (V0 10) w ∧ True → gdK (yb (V0 9)) true (fun k => kV P (Instr.fieldAt 28 (V0 10) 1) w k) w (okX R0 w p0_11)) fun p0_11 =>
  postX R0 (fun p0_12 => allX R0 w fun V0 w => p0_9 (V0 9) w ∧ p0_11 (V0 11) w ∧ True → gdK (yb (V0 9)) true (fun k => kV P (Instr.loadAt 22 (V0 11)) w k) w (okX R0 w p0_12)) fun p0_12 =>
  postX R0 (fun p0_13 => allX R0 w fun V0 w => p0_9 (V0 9) w ∧ p0_12 (V0 12) w ∧ True → gdK (yb (V0 9)) true (fun k => kN P (callN (.func (.func 65) #[] #[]) #[(.int .u64 4), (V0 12)]) w k) w (okX R0 w p0_13)) fun p0_13 =>
  postX R0 (fun p0_14 => allX R0 w fun V0 w => p0_9 (V0 9) w ∧ p0_13 (V0 13) w ∧ True → kN P (pickN (V0 9) (V0 13) (.bool false)) w (okX R0 w p0_14)) fun p0_14 =>
  allX R0 w fun V0 w => p0_6 (V0 6) w ∧ p0_7 (V0 7) w ∧ p0_8 (V0 8) w ∧ p0_9 (V0 9) w ∧ p0_10 (V0 10) w ∧ p0_11 (V0 11) w ∧ p0_12 (V0 12) w ∧ p0_13 (V0 13) w ∧ p0_14 (V0 14) w ∧ True → xDist V0 [] →
  kN P (callN (.func (.func 46) #[] #[]) #[(V0 6), (V0 14), (.int .u64 1)]) w fun v15 w =>
  kU P (Instr.storeAt 24 v2 v15) w fun _ w =>
  retV P 24 v2 w fun r1 =>
  K r1 w) w
theorem F75_eq (P : Program) (t0 : Value) (w : World) (K : Value → World → Prop) : funE P ⟨[(2, 1009)], [], []⟩ Tryz.f75 [t0] w K = F75 P t0 w K := by kernel_rfl
theorem F75_ok (t0 : Value) (w : World) (K : Value → World → Prop) (h : F75 Tryz.prog t0 w K) : callsK Tryz.prog 75 #[t0] w K := calls_of_eq mixedJ Tryz.func75 (F75_eq _ t0 w K) h

/-- (*mintmark/exec.run).jump -/
def F76 (P : Program) (t0 : Value) (w : World) (K : Value → World → Prop) : Prop :=
  kV P (Instr.alloc 42 true (.tuple #[])) w fun v2 w =>
  kV P (Instr.alloc 51 true (.tuple #[])) w fun v3 w =>
  kN P (nilN t0) w fun v10 w =>
  kV P (Instr.fieldAt 91 v10 4) w fun v11 w =>
  kV P (Instr.loadAt 24 v11) w fun v12 w =>
  kN P (callN (.func (.func 15) #[] #[]) #[v12]) w fun v13 w =>
  kV P (Instr.extract v13 0) w fun v14 w =>
  kV P (Instr.extract v13 1) w fun v15 w =>
  kV P (Instr.alloc 28 true (.tuple #[])) w fun v4 w =>
  kU P (Instr.storeAt 28 v4 v14) w fun _ w =>
  kN P (nilN t0) w fun v17 w =>
  kV P (Instr.fieldAt 91 v17 4) w fun v18 w =>
  kV P (Instr.fieldAt 24 v18 0) w fun v19 w =>
  kV P (Instr.loadAt 4 v19) w fun v20 w =>
  joinK (fun J0 : Value → World → Prop => gdK (yb v20) true (fun k => kV P (Instr.fieldAt 28 v4 2) w k) w fun v22 w =>
  gdK (yb v20) true (fun k => kV P (Instr.loadAt 22 v22) w k) w fun v23 w =>
  gdK (yb v20) true (fun k => kV P (binV .eql 22 (.tmp 23) (.const (.int .u64 1)) v23 (.int .u64 1)) w k) w fun v24 w =>
  kN P (pickN v20 v24 (.bool false)) w fun v25_1 w =>
  J0 v25_1 w) fun v25 w =>
  joinK (fun J1 : Value → World → Prop => gdK (yb v25) true (fun k => k t0 w) w fun v27 w =>
  gdK (yb v25) true (fun k => kN P (nilN v27) w k) w fun v28 w =>
  gdK (yb v25) true (fun k => kV P (Instr.fieldAt 91 v28 3) w k) w fun v29 w =>
  gdK (yb v25) true (fun k => kV P (Instr.fieldAt 49 v29 4) w k) w fun v30 w =>
  gdK (yb v25) true (fun k => kV P (Instr.loadAt 2 v30) w k) w fun v31 w =>
  gdK (yb v25) true (fun k => kV P (binV .neq 2 (.tmp 31) (.const (.int .i64 0)) v31 (.int .i64 0)) w k) w fun v32 w =>
  kN P (pickN v25 v32 (.bool false)) w fun v33_1 w =>
  J1 v33_1 w) fun v33 w =>
  condK v33
  (kN P (nilN t0) w fun v36 w =>
  kV P (Instr.fieldAt 91 v36 4) w fun v37 w =>
  kV P (Instr.fieldAt 24 v37 2) w fun v38 w =>
  kV P (Instr.loadAt 22 v38) w fun v39 w =>
  kN P (callN (.func (.func 30) #[] #[]) #[t0, (.int .i64 5), (.int .i64 2), v39]) w fun v40 w =>
  kV P (Instr.extract v40 0) w fun v41 w =>
  kV P (Instr.extract v40 1) w fun v42 w =>
  kU P (Instr.storeAt 42 v2 v41) w fun _ w =>
  kU P (Instr.storeAt 51 v3 v42) w fun _ w =>
  retV P 42 v2 w fun r2 =>
  retV P 51 v3 w fun r3 =>
  K (.tuple #[r2, r3]) w)
  (kN P (nilN t0) w fun v44 w =>
  kV P (Instr.fieldAt 91 v44 4) w fun v45 w =>
  kV P (Instr.loadAt 24 v45) w fun v46 w =>
  kN P (callN (.func (.func 17) #[] #[]) #[v46]) w fun v47 w =>
  kV P (Instr.alloc 24 true (.tuple #[])) w fun v6 w =>
  kU P (Instr.storeAt 24 v6 v47) w fun _ w =>
  kV P (Instr.loadAt 24 v6) w fun v48 w =>
  kN P (callN (.func (.func 29) #[] #[]) #[v48, (.int .i64 0), (.int .u64 0)]) w fun v49 w =>
  kV P (binV .neq 3 (.tmp 50) (.const (.int .i64 0)) v49 (.int .i64 0)) w fun v51 w =>
  condK v51
  (kN P (nilN t0) w fun v55 w =>
  kV P (Instr.fieldAt 91 v55 4) w fun v56 w =>
  kV P (Instr.fieldAt 24 v56 2) w fun v57 w =>
  kV P (Instr.loadAt 22 v57) w fun v58 w =>
  kN P (callN (.func (.func 30) #[] #[]) #[t0, (.int .i64 5), v49, v58]) w fun v59 w =>
  kV P (Instr.extract v59 0) w fun v60 w =>
  kV P (Instr.extract v59 1) w fun v61 w =>
  kU P (Instr.storeAt 42 v2 v60) w fun _ w =>
  kU P (Instr.storeAt 51 v3 v61) w fun _ w =>
  retV P 42 v2 w fun r4 =>
  retV P 51 v3 w fun r5 =>
  K (.tuple #[r4, r5]) w)
  (joinL (fun J6 =>
  drewK (fun w =>
  relX fun R10 =>
  postX R10 (fun p10_62 => allX R10 w fun V10 w => True → (okX R10 w p10_62) t0 w) fun p10_62 =>
  postX R10 (fun p10_63 => allX R10 w fun V10 w => True → kV P (Instr.loadAt 24 v6) w (okX R10 w p10_63)) fun p10_63 =>
  postX R10 (fun p10_64 => allX R10 w fun V10 w => True → kV P (Instr.fieldAt 24 v6 2) w (okX R10 w p10_64)) fun p10_64 =>
  postX R10 (fun p10_65 => allX R10 w fun V10 w => p10_64 (V10 64) w ∧ True → kV P (Instr.loadAt 22 (V10 64)) w (okX R10 w p10_65)) fun p10_65 =>
  postX R10 (fun p10_66 => allX R10 w fun V10 w => True → (okX R10 w p10_66) t0 w) fun p10_66 =>
  postX R10 (fun p10_67 => allX R10 w fun V10 w => p10_66 (V10 66) w ∧ True → kN P (nilN (V10 66)) w (okX R10 w p10_67)) fun p10_67 =>
  postX R10 (fun p10_68 => allX R10 w fun V10 w => p10_67 (V10 67) w ∧ True → kV P (Instr.fieldAt 91 (V10 67) 3) w (okX R10 w p10_68)) fun p10_68 =>
  postX R10 (fun p10_69 => allX R10 w fun V10 w => p10_68 (V10 68) w ∧ True → kV P (Instr.fieldAt 49 (V10 68) 4) w (okX R10 w p10_69)) fun p10_69 =>
  postX R10 (fun p10_70 => allX R10 w fun V10 w => p10_69 (V10 69) w ∧ True → kV P (Instr.loadAt 2 (V10 69)) w (okX R10 w p10_70)) fun p10_70 =>
  postX R10 (fun p10_71 => allX R10 w fun V10 w => p10_70 (V10 70) w ∧ True → kV P (convert 2 22 (V10 70)) w (okX R10 w p10_71)) fun p10_71 =>
  postX R10 (fun p10_72 => allX R10 w fun V10 w => p10_65 (V10 65) w ∧ p10_71 (V10 71) w ∧ True → kV P (binV .add 22 (.tmp 65) (.tmp 71) (V10 65) (V10 71)) w (okX R10 w p10_72)) fun p10_72 =>
  postX R10 (fun p10_73 => allX R10 w fun V10 w => p10_72 (V10 72) w ∧ True → kV P (binV .andNot 22 (.tmp 72) (.const (.int .u64 1)) (V10 72) (.int .u64 1)) w (okX R10 w p10_73)) fun p10_73 =>
  postX R10 (fun p10_74 => allX R10 w fun V10 w => p10_63 (V10 63) w ∧ p10_73 (V10 73) w ∧ True → kN P (callN (.func (.func 44) #[] #[]) #[(V10 63), (V10 73)]) w (okX R10 w p10_74)) fun p10_74 =>
  allX R10 w fun V10 w => p10_62 (V10 62) w ∧ p10_63 (V10 63) w ∧ p10_64 (V10 64) w ∧ p10_65 (V10 65) w ∧ p10_66 (V10 66) w ∧ p10_67 (V10 67) w ∧ p10_68 (V10 68) w ∧ p10_69 (V10 69) w ∧ p10_70 (V10 70) w ∧ p10_71 (V10 71) w ∧ p10_72 (V10 72) w ∧ p10_73 (V10 73) w ∧ p10_74 (V10 74) w ∧ True → xDist V10 [] →
  kN P (nilN (V10 62)) w fun v75 w =>
  kV P (Instr.fieldAt 91 v75 0) w fun v76 w =>
  kV P (Instr.fieldAt 42 v76 1) w fun v77 w =>
  kU P (Instr.storeAt 24 v77 (V10 74)) w fun _ w =>
  J6 [] w) w) fun s6 w => ∀ _ : Nat → Value,
  kN P (nilN t0) w fun v80 w =>
  kV P (Instr.fieldAt 91 v80 1) w fun v81 w =>
  kV P (Instr.loadAt 42 v81) w fun v82 w =>
  kN P (callN (.func (.func 28) #[] #[]) #[v82]) w fun v83 w =>
  kV P (Instr.field 42 v83 1) w fun v84 w =>
  kN P (callN (.func (.func 75) #[] #[]) #[v84]) w fun v85 w =>
  kN P (callN (.func (.func 74) #[] #[]) #[t0, v85]) w fun v86 w =>
  kV P (Instr.extract v86 0) w fun v87 w =>
  kV P (Instr.extract v86 1) w fun v88 w =>
  kU P (Instr.storeAt 42 v2 v87) w fun _ w =>
  kU P (Instr.storeAt 51 v3 v88) w fun _ w =>
  retV P 42 v2 w fun r8 =>
  retV P 51 v3 w fun r9 =>
  K (.tuple #[r8, r9]) w))
theorem F76_eq (P : Program) (t0 : Value) (w : World) (K : Value → World → Prop) : funE P ⟨[(8, 1013)], [], [(9, [])]⟩ Tryz.f76 [t0] w K = F76 P t0 w K := by kernel_rfl
theorem F76_ok (t0 : Value) (w : World) (K : Value → World → Prop) (h : F76 Tryz.prog t0 w K) : callsK Tryz.prog 76 #[t0] w K := calls_of_eq mixedJ Tryz.func76 (F76_eq _ t0 w K) h

end Go.Proofs.YtplfniijbeinmaaGreat
