/- The formulas of functions of this seat, each tied to its calls; conditions: none. -/
import Derived.Test.YtfpcflmgipklcaaProg
import Derived.Test.YtfpcflmgipklcaaFx
import Derived.KernelRfl
namespace Go.Proofs.Ytfpcflmgipklcaa
open Go.Fx
set_option linter.unusedVariables false
set_option linter.constructorNameAsVariable false
set_option maxRecDepth 100000
theorem mixedQ : Try.prog.follows .mixedOrders = true := by kernel_rfl
/-- mintmark/mintmarklaw22.TablePlays -/
def F3 (P : Program) (t0 t1 : Value) (w : World) (K : Value → World → Prop) : Prop :=
  kN P (callN (.func (.func 6) #[] #[]) #[(.int .i64 12)]) w fun v30 w =>
  kV P (Instr.extract v30 0) w fun v31 w =>
  kV P (Instr.extract v30 1) w fun v32 w =>
  kN P (callN (.func (.func 7) #[] #[]) #[(.int .i64 12)]) w fun v34 w =>
  kV P (Instr.extract v34 0) w fun v35 w =>
  kV P (Instr.extract v34 1) w fun v36 w =>
  kN P (callN (.func (.func 8) #[] #[]) #[v31, v35]) w fun v40 w =>
  kV P (Instr.extract v40 0) w fun v41 w =>
  kV P (Instr.extract v40 1) w fun v42 w =>
  kV P (binV .neq 25 (.tmp 43) (.const (.int .i64 0)) v42 (.int .i64 0)) w fun v44 w =>
  joinK (fun J0 : Value → World → Prop => gdK (yb v44) false (fun k => k v41 w) w fun v46 w =>
  gdK (yb v44) false (fun k => kV P (binV .eql 31 (.tmp 46) (.const (.pointer none)) v46 (.pointer none)) w k) w fun v47 w =>
  kN P (pickN v44 (.bool true) v47) w fun v48_1 w =>
  J0 v48_1 w) fun v48 w =>
  joinK (fun J1 : Value → World → Prop => gdK (yb v48) false (fun k => k v31 w) w fun v50 w =>
  gdK (yb v48) false (fun k => kV P (binV .eql 24 (.tmp 50) (.const (.pointer none)) v50 (.pointer none)) w k) w fun v51 w =>
  kN P (pickN v48 (.bool true) v51) w fun v52_1 w =>
  J1 v52_1 w) fun v52 w =>
  joinK (fun J2 : Value → World → Prop => gdK (yb v52) false (fun k => k v35 w) w fun v54 w =>
  gdK (yb v52) false (fun k => kV P (binV .eql 28 (.tmp 54) (.const (.pointer none)) v54 (.pointer none)) w k) w fun v55 w =>
  kN P (pickN v52 (.bool true) v55) w fun v56_1 w =>
  J2 v56_1 w) fun v56 w =>
  condK v56
  (K (.bool false) w)
  (kV P (Instr.build 37 #[]) w fun v57 w =>
  kV P (Instr.alloc 37 true (.tuple #[])) w fun v11 w =>
  kU P (Instr.storeAt 37 v11 v57) w fun _ w =>
  loopT (fun R3 s3 w => ∀ _ : Nat → Value,
  kV P (Builtin.len_ #[22] 3 #[t0]) w fun v60 w =>
  kV P (binV .lss 3 (.tmp 58) (.tmp 60) (s3.getD 1 undef) v60) w fun v61 w =>
  joinK (fun J5 : Value → World → Prop => gdK (yb v61) true (fun k => k (s3.getD 1 undef) w) w fun v63 w =>
  gdK (yb v61) true (fun k => kV P (binV .lss 3 (.tmp 63) (.const (.int .i64 50)) v63 (.int .i64 50)) w k) w fun v64 w =>
  kN P (pickN v61 v64 (.bool false)) w fun v65_1 w =>
  J5 v65_1 w) fun v65 w =>
  condK v65
  (kV P (Instr.indexAt 22 t0 (s3.getD 1 undef)) w fun v70 w =>
  kV P (Instr.loadAt 42 v70) w fun v71 w =>
  kV P (Instr.alloc 42 true (.tuple #[])) w fun v14 w =>
  kU P (Instr.storeAt 42 v14 v71) w fun _ w =>
  joinL (fun J6 =>
  kV P (Instr.fieldAt 42 v14 0) w fun v72 w =>
  kV P (Instr.loadAt 3 v72) w fun v73 w =>
  kV P (binV .eql 3 (.tmp 73) (.const (.int .i64 0)) v73 (.int .i64 0)) w fun v75 w =>
  condK v75
  (kV P (Instr.fieldAt 42 v14 2) w fun v77 w =>
  kV P (Instr.loadAt 23 v77) w fun v78 w =>
  kV P (Instr.fieldAt 42 v14 3) w fun v79 w =>
  kV P (Instr.loadAt 40 v79) w fun v80 w =>
  kN P (callN (.func (.func 9) #[] #[]) #[v41, v78, v80]) w fun v81 w =>
  joinL (fun J11 =>
  drewK (fun w =>
  relX fun R13 =>
  postX R13 (fun p13_83 => allX R13 w fun V13 w => True → kV P (Instr.loadAt 37 v11) w (okX R13 w p13_83)) fun p13_83 =>
  postX R13 (fun p13_84 => allX R13 w fun V13 w => True → kV P (Instr.fieldAt 42 v14 2) w (okX R13 w p13_84)) fun p13_84 =>
  postX R13 (fun p13_85 => allX R13 w fun V13 w => p13_84 (V13 84) w ∧ True → kV P (Instr.loadAt 23 (V13 84)) w (okX R13 w p13_85)) fun p13_85 =>
  postX R13 (fun p13_86 => allX R13 w fun V13 w => True → kV P (Instr.fieldAt 42 v14 3) w (okX R13 w p13_86)) fun p13_86 =>
  postX R13 (fun p13_87 => allX R13 w fun V13 w => p13_86 (V13 86) w ∧ True → kV P (Instr.loadAt 40 (V13 86)) w (okX R13 w p13_87)) fun p13_87 =>
  postX R13 (fun p13_88 => allX R13 w fun V13 w => True → (okX R13 w p13_88) (s3.getD 0 undef) w) fun p13_88 =>
  postX R13 (fun p13_89 => allX R13 w fun V13 w => p13_88 (V13 88) w ∧ True → kV P (Builtin.len_ #[38] 3 #[(V13 88)]) w (okX R13 w p13_89)) fun p13_89 =>
  postX R13 (fun p13_90 => allX R13 w fun V13 w => p13_89 (V13 89) w ∧ True → kV P (binV .sub 3 (.const (.int .i64 12)) (.tmp 89) (.int .i64 12) (V13 89)) w (okX R13 w p13_90)) fun p13_90 =>
  postX R13 (fun p13_91 => allX R13 w fun V13 w => True → kV P (Instr.loadAt 37 v11) w (okX R13 w p13_91)) fun p13_91 =>
  postX R13 (fun p13_92 => allX R13 w fun V13 w => p13_91 (V13 91) w ∧ True → kN P (callN (.func (.func 11) #[] #[]) #[(V13 91)]) w (okX R13 w p13_92)) fun p13_92 =>
  postX R13 (fun p13_93 => allX R13 w fun V13 w => p13_90 (V13 90) w ∧ p13_92 (V13 92) w ∧ True → kV P (binV .sub 3 (.tmp 90) (.tmp 92) (V13 90) (V13 92)) w (okX R13 w p13_93)) fun p13_93 =>
  postX R13 (fun p13_94 => allX R13 w fun V13 w => p13_83 (V13 83) w ∧ p13_85 (V13 85) w ∧ p13_87 (V13 87) w ∧ p13_92 (V13 92) w ∧ p13_93 (V13 93) w ∧ True → kN P (callN (.func (.func 10) #[] #[]) #[(V13 83), (V13 85), (V13 87), (V13 93)]) w (okX R13 w p13_94)) fun p13_94 =>
  postX R13 (fun p13_82 => allX R13 w fun V13 w => p13_94 (V13 94) w ∧ True → (okX R13 w p13_82) (V13 94) w) fun p13_82 =>
  postX R13 (fun p13_95 => allX R13 w fun V13 w => p13_82 (V13 82) w ∧ True → kV P (Instr.extract (V13 82) 0) w (okX R13 w p13_95)) fun p13_95 =>
  postX R13 (fun p13_96 => allX R13 w fun V13 w => p13_82 (V13 82) w ∧ True → kV P (Instr.extract (V13 82) 1) w (okX R13 w p13_96)) fun p13_96 =>
  postX R13 (fun p13_17 => allX R13 w fun V13 w => True → kV P (Instr.alloc 37 true (.tuple #[])) w (okX R13 w p13_17)) fun p13_17 =>
  postX R13 (fun p13_n16 => allX R13 w fun V13 w => p13_83 (V13 83) w ∧ p13_84 (V13 84) w ∧ p13_85 (V13 85) w ∧ p13_86 (V13 86) w ∧ p13_87 (V13 87) w ∧ p13_88 (V13 88) w ∧ p13_89 (V13 89) w ∧ p13_90 (V13 90) w ∧ p13_91 (V13 91) w ∧ p13_92 (V13 92) w ∧ p13_93 (V13 93) w ∧ p13_94 (V13 94) w ∧ p13_82 (V13 82) w ∧ p13_95 (V13 95) w ∧ p13_17 (V13 17) w ∧ True → kU P (Instr.storeAt 37 (V13 17) (V13 95)) w (okX R13 w (fun _ => p13_n16 (V13 17)))) fun p13_n16 =>
  allX R13 w fun V13 w => p13_83 (V13 83) w ∧ p13_84 (V13 84) w ∧ p13_85 (V13 85) w ∧ p13_86 (V13 86) w ∧ p13_87 (V13 87) w ∧ p13_88 (V13 88) w ∧ p13_89 (V13 89) w ∧ p13_90 (V13 90) w ∧ p13_91 (V13 91) w ∧ p13_92 (V13 92) w ∧ p13_93 (V13 93) w ∧ p13_94 (V13 94) w ∧ p13_82 (V13 82) w ∧ p13_95 (V13 95) w ∧ p13_96 (V13 96) w ∧ p13_17 (V13 17) w ∧ p13_n16 (V13 17) w ∧ True → xDist V13 [17] →
  J11 [(V13 17), (V13 96)] w) w) fun s11 w => ∀ _ : Nat → Value,
  kV P (Instr.loadAt 37 (s11.getD 0 undef)) w fun v97 w =>
  kU P (Instr.storeAt 37 v11 v97) w fun _ w =>
  J6 [v81, (s11.getD 1 undef), (s3.getD 0 undef)] w)
  (kV P (binV .eql 3 (.tmp 73) (.const (.int .i64 2)) v73 (.int .i64 2)) w fun v100 w =>
  condK v100
  (kV P (Instr.fieldAt 42 v14 2) w fun v102 w =>
  kV P (Instr.loadAt 23 v102) w fun v103 w =>
  kN P (callN (.func (.func 12) #[] #[]) #[v41, v103]) w fun v104 w =>
  kV P (Instr.loadAt 37 v11) w fun v106 w =>
  kV P (Instr.fieldAt 42 v14 2) w fun v107 w =>
  kV P (Instr.loadAt 23 v107) w fun v108 w =>
  kN P (callN (.func (.func 13) #[] #[]) #[v106, v108]) w fun v109 w =>
  kV P (Instr.extract v109 0) w fun v110 w =>
  kV P (Instr.extract v109 1) w fun v111 w =>
  kU P (Instr.storeAt 37 v11 v110) w fun _ w =>
  J6 [v104, v111, (s3.getD 0 undef)] w)
  (kV P (binV .eql 3 (.tmp 73) (.const (.int .i64 3)) v73 (.int .i64 3)) w fun v113 w =>
  condK v113
  (kN P (callN (.func (.func 14) #[] #[]) #[v35]) w fun v116 w =>
  kV P (Instr.extract v116 0) w fun v117 w =>
  kV P (Instr.extract v116 1) w fun v118 w =>
  kV P (binV .eql 25 (.tmp 119) (.const (.int .i64 0)) v118 (.int .i64 0)) w fun v120 w =>
  condK v120
  (kV P (Instr.buildSlice 38 1 #[(0, v117)]) w fun v123 w =>
  kV P (Builtin.append_ #[38, 38] 38 #[(s3.getD 0 undef), v123]) w fun v124 w =>
  J6 [(.int .i64 0), (.int .i64 0), v124] w)
  (J6 [(.int .i64 0), (.int .i64 0), (s3.getD 0 undef)] w))
  (kV P (binV .eql 3 (.tmp 73) (.const (.int .i64 4)) v73 (.int .i64 4)) w fun v126 w =>
  condK v126
  (kV P (Builtin.len_ #[38] 3 #[(s3.getD 0 undef)]) w fun v128 w =>
  kV P (binV .gtr 3 (.tmp 128) (.const (.int .i64 0)) v128 (.int .i64 0)) w fun v129 w =>
  condK v129
  (kV P (Instr.indexAt 38 (s3.getD 0 undef) (.int .i64 0)) w fun v132 w =>
  kV P (Instr.loadAt 3 v132) w fun v133 w =>
  kN P (callN (.func (.func 15) #[] #[]) #[v35, v133]) w fun v134 w =>
  kV P (Instr.sliceAt 38 (s3.getD 0 undef) (some (.int .i64 1)) none none) w fun v136 w =>
  J6 [(.int .i64 0), (.int .i64 0), v136] w)
  (J6 [(.int .i64 0), (.int .i64 0), (s3.getD 0 undef)] w))
  (J6 [(.int .i64 0), (.int .i64 0), (s3.getD 0 undef)] w))))) fun s6 w => ∀ _ : Nat → Value,
  kV P (Instr.loadAt 37 v11) w fun v138 w =>
  kV P (Instr.fieldAt 42 v14 2) w fun v139 w =>
  kV P (Instr.loadAt 23 v139) w fun v140 w =>
  kN P (callN (.func (.func 16) #[] #[]) #[v138, v140]) w fun v141 w =>
  kV P (Instr.extract v141 0) w fun v142 w =>
  kV P (Instr.extract v141 1) w fun v143 w =>
  kV P (Instr.alloc 46 true (.tuple #[])) w fun v21 w =>
  kU P (Instr.storeAt 46 v21 v142) w fun _ w =>
  kV P (Instr.fieldAt 42 v14 2) w fun v146 w =>
  kV P (Instr.loadAt 23 v146) w fun v147 w =>
  kN P (callN (.func (.func 17) #[] #[]) #[v41, v147]) w fun v148 w =>
  kV P (Instr.extract v148 0) w fun v149 w =>
  kV P (Instr.extract v148 1) w fun v150 w =>
  kV P (Instr.alloc 40 true (.tuple #[])) w fun v23 w =>
  kU P (Instr.storeAt 40 v23 v149) w fun _ w =>
  joinL (fun J8 =>
  drewK (fun w =>
  relX fun R10 =>
  postX R10 (fun p10_151 => allX R10 w fun V10 w => True → (okX R10 w p10_151) (s6.getD 0 undef) w) fun p10_151 =>
  postX R10 (fun p10_152 => allX R10 w fun V10 w => True → (okX R10 w p10_152) (s6.getD 1 undef) w) fun p10_152 =>
  postX R10 (fun p10_153 => allX R10 w fun V10 w => p10_151 (V10 151) w ∧ p10_152 (V10 152) w ∧ True → kV P (binV .neq 3 (.tmp 151) (.tmp 152) (V10 151) (V10 152)) w (okX R10 w p10_153)) fun p10_153 =>
  postX R10 (fun p10_154 => allX R10 w fun V10 w => p10_153 (V10 153) w ∧ True → (okX R10 w p10_154) (V10 153) w) fun p10_154 =>
  postX R10 (fun p10_155 => allX R10 w fun V10 w => p10_154 (V10 154) w ∧ True → gdK (yb (V10 154)) false (fun k => k v150 w) w (okX R10 w p10_155)) fun p10_155 =>
  postX R10 (fun p10_156 => allX R10 w fun V10 w => p10_154 (V10 154) w ∧ True → gdK (yb (V10 154)) false (fun k => k v143 w) w (okX R10 w p10_156)) fun p10_156 =>
  postX R10 (fun p10_157 => allX R10 w fun V10 w => p10_154 (V10 154) w ∧ p10_155 (V10 155) w ∧ p10_156 (V10 156) w ∧ True → gdK (yb (V10 154)) false (fun k => kV P (binV .neq 4 (.tmp 155) (.tmp 156) (V10 155) (V10 156)) w k) w (okX R10 w p10_157)) fun p10_157 =>
  postX R10 (fun p10_158 => allX R10 w fun V10 w => p10_154 (V10 154) w ∧ p10_157 (V10 157) w ∧ True → kN P (pickN (V10 154) (.bool true) (V10 157)) w (okX R10 w p10_158)) fun p10_158 =>
  postX R10 (fun p10_159 => allX R10 w fun V10 w => p10_154 (V10 154) w ∧ p10_158 (V10 158) w ∧ True → (okX R10 w p10_159) (V10 158) w) fun p10_159 =>
  postX R10 (fun p10_160 => allX R10 w fun V10 w => p10_159 (V10 159) w ∧ True → gdK (yb (V10 159)) false (fun k => kV P (Instr.loadAt 40 v23) w k) w (okX R10 w p10_160)) fun p10_160 =>
  postX R10 (fun p10_161 => allX R10 w fun V10 w => p10_159 (V10 159) w ∧ True → gdK (yb (V10 159)) false (fun k => kV P (Instr.loadAt 46 v21) w k) w (okX R10 w p10_161)) fun p10_161 =>
  postX R10 (fun p10_162 => allX R10 w fun V10 w => p10_159 (V10 159) w ∧ p10_160 (V10 160) w ∧ p10_161 (V10 161) w ∧ True → gdK (yb (V10 159)) false (fun k => kV P (binV .neq 46 (.tmp 160) (.tmp 161) (V10 160) (V10 161)) w k) w (okX R10 w p10_162)) fun p10_162 =>
  postX R10 (fun p10_163 => allX R10 w fun V10 w => p10_159 (V10 159) w ∧ p10_162 (V10 162) w ∧ True → kN P (pickN (V10 159) (.bool true) (V10 162)) w (okX R10 w p10_163)) fun p10_163 =>
  postX R10 (fun p10_164 => allX R10 w fun V10 w => p10_159 (V10 159) w ∧ p10_163 (V10 163) w ∧ True → (okX R10 w p10_164) (V10 163) w) fun p10_164 =>
  postX R10 (fun p10_165 => allX R10 w fun V10 w => p10_164 (V10 164) w ∧ True → gdK (yb (V10 164)) false (fun k => k v41 w) w (okX R10 w p10_165)) fun p10_165 =>
  postX R10 (fun p10_166 => allX R10 w fun V10 w => p10_164 (V10 164) w ∧ p10_165 (V10 165) w ∧ True → gdK (yb (V10 164)) false (fun k => kN P (callN (.func (.func 18) #[] #[]) #[(V10 165)]) w k) w (okX R10 w p10_166)) fun p10_166 =>
  postX R10 (fun p10_167 => allX R10 w fun V10 w => p10_164 (V10 164) w ∧ p10_166 (V10 166) w ∧ True → gdK (yb (V10 164)) false (fun k => kV P (Builtin.len_ #[38] 3 #[(V10 166)]) w k) w (okX R10 w p10_167)) fun p10_167 =>
  postX R10 (fun p10_168 => allX R10 w fun V10 w => p10_164 (V10 164) w ∧ True → gdK (yb (V10 164)) false (fun k => kV P (Instr.loadAt 37 v11) w k) w (okX R10 w p10_168)) fun p10_168 =>
  postX R10 (fun p10_169 => allX R10 w fun V10 w => p10_164 (V10 164) w ∧ p10_166 (V10 166) w ∧ p10_168 (V10 168) w ∧ True → gdK (yb (V10 164)) false (fun k => kN P (callN (.func (.func 11) #[] #[]) #[(V10 168)]) w k) w (okX R10 w p10_169)) fun p10_169 =>
  postX R10 (fun p10_170 => allX R10 w fun V10 w => p10_164 (V10 164) w ∧ p10_167 (V10 167) w ∧ p10_169 (V10 169) w ∧ True → gdK (yb (V10 164)) false (fun k => kV P (binV .neq 3 (.tmp 167) (.tmp 169) (V10 167) (V10 169)) w k) w (okX R10 w p10_170)) fun p10_170 =>
  postX R10 (fun p10_171 => allX R10 w fun V10 w => p10_164 (V10 164) w ∧ p10_170 (V10 170) w ∧ True → kN P (pickN (V10 164) (.bool true) (V10 170)) w (okX R10 w p10_171)) fun p10_171 =>
  postX R10 (fun p10_172 => allX R10 w fun V10 w => p10_169 (V10 169) w ∧ p10_171 (V10 171) w ∧ True → (okX R10 w p10_172) (V10 171) w) fun p10_172 =>
  postX R10 (fun p10_173 => allX R10 w fun V10 w => p10_172 (V10 172) w ∧ True → gdK (yb (V10 172)) false (fun k => k v35 w) w (okX R10 w p10_173)) fun p10_173 =>
  postX R10 (fun p10_174 => allX R10 w fun V10 w => p10_172 (V10 172) w ∧ p10_173 (V10 173) w ∧ True → gdK (yb (V10 172)) false (fun k => kN P (callN (.func (.func 19) #[] #[]) #[(V10 173)]) w k) w (okX R10 w p10_174)) fun p10_174 =>
  postX R10 (fun p10_175 => allX R10 w fun V10 w => p10_172 (V10 172) w ∧ True → gdK (yb (V10 172)) false (fun k => k (s6.getD 2 undef) w) w (okX R10 w p10_175)) fun p10_175 =>
  postX R10 (fun p10_176 => allX R10 w fun V10 w => p10_172 (V10 172) w ∧ p10_175 (V10 175) w ∧ True → gdK (yb (V10 172)) false (fun k => kV P (Builtin.len_ #[38] 3 #[(V10 175)]) w k) w (okX R10 w p10_176)) fun p10_176 =>
  postX R10 (fun p10_177 => allX R10 w fun V10 w => p10_172 (V10 172) w ∧ p10_176 (V10 176) w ∧ True → gdK (yb (V10 172)) false (fun k => kV P (binV .sub 3 (.const (.int .i64 12)) (.tmp 176) (.int .i64 12) (V10 176)) w k) w (okX R10 w p10_177)) fun p10_177 =>
  postX R10 (fun p10_178 => allX R10 w fun V10 w => p10_172 (V10 172) w ∧ True → gdK (yb (V10 172)) false (fun k => kV P (Instr.loadAt 37 v11) w k) w (okX R10 w p10_178)) fun p10_178 =>
  postX R10 (fun p10_179 => allX R10 w fun V10 w => p10_172 (V10 172) w ∧ p10_174 (V10 174) w ∧ p10_178 (V10 178) w ∧ True → gdK (yb (V10 172)) false (fun k => kN P (callN (.func (.func 11) #[] #[]) #[(V10 178)]) w k) w (okX R10 w p10_179)) fun p10_179 =>
  postX R10 (fun p10_180 => allX R10 w fun V10 w => p10_172 (V10 172) w ∧ p10_177 (V10 177) w ∧ p10_179 (V10 179) w ∧ True → gdK (yb (V10 172)) false (fun k => kV P (binV .sub 3 (.tmp 177) (.tmp 179) (V10 177) (V10 179)) w k) w (okX R10 w p10_180)) fun p10_180 =>
  postX R10 (fun p10_181 => allX R10 w fun V10 w => p10_172 (V10 172) w ∧ p10_174 (V10 174) w ∧ p10_180 (V10 180) w ∧ True → gdK (yb (V10 172)) false (fun k => kV P (binV .neq 3 (.tmp 174) (.tmp 180) (V10 174) (V10 180)) w k) w (okX R10 w p10_181)) fun p10_181 =>
  postX R10 (fun p10_182 => allX R10 w fun V10 w => p10_172 (V10 172) w ∧ p10_181 (V10 181) w ∧ True → kN P (pickN (V10 172) (.bool true) (V10 181)) w (okX R10 w p10_182)) fun p10_182 =>
  allX R10 w fun V10 w => p10_151 (V10 151) w ∧ p10_152 (V10 152) w ∧ p10_153 (V10 153) w ∧ p10_154 (V10 154) w ∧ p10_155 (V10 155) w ∧ p10_156 (V10 156) w ∧ p10_157 (V10 157) w ∧ p10_158 (V10 158) w ∧ p10_159 (V10 159) w ∧ p10_160 (V10 160) w ∧ p10_161 (V10 161) w ∧ p10_162 (V10 162) w ∧ p10_163 (V10 163) w ∧ p10_164 (V10 164) w ∧ p10_165 (V10 165) w ∧ p10_166 (V10 166) w ∧ p10_167 (V10 167) w ∧ p10_168 (V10 168) w ∧ p10_169 (V10 169) w ∧ p10_170 (V10 170) w ∧ p10_171 (V10 171) w ∧ p10_172 (V10 172) w ∧ p10_173 (V10 173) w ∧ p10_174 (V10 174) w ∧ p10_175 (V10 175) w ∧ p10_176 (V10 176) w ∧ p10_177 (V10 177) w ∧ p10_178 (V10 178) w ∧ p10_179 (V10 179) w ∧ p10_180 (V10 180) w ∧ p10_181 (V10 181) w ∧ p10_182 (V10 182) w ∧ True → xDist V10 [] →
  J8 [(V10 182)] w) w) fun s8 w => ∀ _ : Nat → Value,
  condK (s8.getD 0 undef)
  (K (.bool false) w)
  (kV P (binV .add 3 (.tmp 66) (.const (.int .i64 1)) (s3.getD 1 undef) (.int .i64 1)) w fun v67 w =>
  R3 [(s6.getD 2 undef), v67] w))
  (kN P (callN (.func (.func 21) #[] #[]) #[v41]) w fun v186 w =>
  kN P (callN (.func (.func 20) #[] #[]) #[v31, v186, t1]) w fun v188 w =>
  kV P (Instr.extract v188 0) w fun v189 w =>
  kV P (Instr.extract v188 1) w fun v190 w =>
  kV P (Instr.alloc 59 true (.tuple #[])) w fun v25 w =>
  kU P (Instr.storeAt 59 v25 v189) w fun _ w =>
  kV P (Instr.loadAt 37 v11) w fun v192 w =>
  kN P (callN (.func (.func 16) #[] #[]) #[v192, t1]) w fun v194 w =>
  kV P (Instr.extract v194 0) w fun v195 w =>
  kV P (Instr.extract v194 1) w fun v196 w =>
  kV P (Instr.alloc 46 true (.tuple #[])) w fun v27 w =>
  kU P (Instr.storeAt 46 v27 v195) w fun _ w =>
  kV P (binV .eql 3 (.tmp 197) (.const (.int .i64 0)) v190 (.int .i64 0)) w fun v198 w =>
  joinK (fun J14 : Value → World → Prop => gdK (yb v196) true (fun k => kV P (Instr.fieldAt 46 v27 12) w k) w fun v201 w =>
  gdK (yb v196) true (fun k => kV P (Instr.loadAt 23 v201) w k) w fun v202 w =>
  gdK (yb v196) true (fun k => kV P (binV .lss 23 (.tmp 202) (.const (.int .u64 12)) v202 (.int .u64 12)) w k) w fun v203 w =>
  kN P (pickN v196 v203 (.bool false)) w fun v204_1 w =>
  J14 v204_1 w) fun v204 w =>
  kV P (binV .neq 4 (.tmp 198) (.tmp 204) v198 v204) w fun v205 w =>
  joinK (fun J15 : Value → World → Prop => gdK (yb v205) false (fun k => k v190 w) w fun v207 w =>
  gdK (yb v205) false (fun k => kV P (binV .eql 3 (.tmp 207) (.const (.int .i64 0)) v207 (.int .i64 0)) w k) w fun v208 w =>
  gdK (yb v205) false (fun k => k v208 w) w fun v209 w =>
  gdK (yb v209) true (fun k => kV P (Instr.fieldAt 59 v25 0) w k) w fun v210 w =>
  gdK (yb v209) true (fun k => kV P (Instr.loadAt 40 v210) w k) w fun v211 w =>
  gdK (yb v209) true (fun k => kV P (Instr.loadAt 46 v27) w k) w fun v212 w =>
  gdK (yb v209) true (fun k => kV P (binV .neq 46 (.tmp 211) (.tmp 212) v211 v212) w k) w fun v213 w =>
  gdK (yb v205) false (fun k => kN P (pickN v209 v213 (.bool false)) w k) w fun v214 w =>
  kN P (pickN v205 (.bool true) v214) w fun v215_1 w =>
  J15 v215_1 w) fun v215 w =>
  condK v215
  (K (.bool false) w)
  (kN P (callN (.func (.func 22) #[] #[]) #[]) w fun v216 w =>
  K v216 w))) [(.slice none 0 0), (.int .i64 0)] w)
theorem F3_eq (P : Program) (t0 t1 : Value) (w : World) (K : Value → World → Prop) : funE P ⟨[(16, 1017), (31, 1032)], [(9, [12, 13])], [(29, [15, 16, 12]), (17, [17, 18]), (32, [182])]⟩ Try.f3 [t0, t1] w K = F3 P t0 t1 w K := by kernel_rfl
theorem F3_ok (t0 t1 : Value) (w : World) (K : Value → World → Prop) (h : F3 Try.prog t0 t1 w K) : callsK Try.prog 3 #[t0, t1] w K := calls_of_eq mixedQ Try.func3 (F3_eq _ t0 t1 w K) h

/-- (mintmark/mintmarkref22.Tables).Set -/
def F10 (P : Program) (t0 t1 t2 t3 : Value) (w : World) (K : Value → World → Prop) : Prop :=
  kV P (Instr.box 37 t0) w fun v4 w =>
  kV P (Instr.box 46 t2) w fun v6 w =>
  kV P (Instr.alloc 37 true (.tuple #[])) w fun v8 w =>
  kV P (binV .geq 23 (.tmp 12) (.const (.int .u64 274877906944)) t1 (.int .u64 274877906944)) w fun v13 w =>
  joinK (fun J0 : Value → World → Prop => gdK (yb v13) false (fun k => kV P (Instr.loadAt 46 v6) w k) w fun v15 w =>
  gdK (yb v13) false (fun k => kN P (callN (.func (.func 37) #[] #[]) #[v15]) w k) w fun v16 w =>
  gdK (yb v13) false (fun k => kV P (Op.unary .not v16) w k) w fun v17 w =>
  kN P (pickN v13 (.bool true) v17) w fun v18_1 w =>
  J0 v18_1 w) fun v18 w =>
  joinK (fun J1 : Value → World → Prop => gdK (yb v18) false (fun k => kV P (Instr.loadAt 46 v6) w k) w fun v20 w =>
  gdK (yb v18) false (fun k => kN P (callN (.func (.func 38) #[] #[]) #[v20]) w k) w fun v21 w =>
  gdK (yb v18) false (fun k => kV P (Op.unary .not v21) w k) w fun v22 w =>
  kN P (pickN v18 (.bool true) v22) w fun v23_1 w =>
  J1 v23_1 w) fun v23 w =>
  condK v23
  (kV P (Instr.loadAt 37 v4) w fun v24 w =>
  kU P (Instr.storeAt 37 v8 v24) w fun _ w =>
  retV P 37 v8 w fun r2 =>
  K (.tuple #[r2, (.int .i64 2)]) w)
  (joinL (fun J3 =>
  kV P (Instr.fieldAt 37 v4 2) w fun v25 w =>
  kV P (Instr.loadAt 34 v25) w fun v26 w =>
  kV P (binV .quo 23 (.tmp 27) (.const (.int .u64 1073741824)) t1 (.int .u64 1073741824)) w fun v28 w =>
  kN P (callN (.func (.func 39) #[] #[]) #[v26, v28]) w fun v29 w =>
  kV P (Op.unary .not v29) w fun v30 w =>
  condK v30
  (kV P (binV .add 3 (.tmp 31) (.const (.int .i64 1)) (.int .i64 0) (.int .i64 1)) w fun v32 w =>
  J3 [v32] w)
  (J3 [(.int .i64 0)] w)) fun s3 w => ∀ _ : Nat → Value,
  joinL (fun J5 =>
  kV P (Instr.fieldAt 37 v4 3) w fun v33 w =>
  kV P (Instr.loadAt 34 v33) w fun v34 w =>
  kV P (binV .quo 23 (.tmp 35) (.const (.int .u64 2097152)) t1 (.int .u64 2097152)) w fun v36 w =>
  kN P (callN (.func (.func 39) #[] #[]) #[v34, v36]) w fun v37 w =>
  kV P (Op.unary .not v37) w fun v38 w =>
  condK v38
  (kV P (binV .add 3 (.tmp 39) (.const (.int .i64 1)) (s3.getD 0 undef) (.int .i64 1)) w fun v40 w =>
  J5 [v40] w)
  (J5 [(s3.getD 0 undef)] w)) fun s5 w => ∀ _ : Nat → Value,
  kV P (binV .gtr 3 (.tmp 41) (.tmp 42) (s5.getD 0 undef) t3) w fun v43 w =>
  condK v43
  (kV P (Instr.loadAt 37 v4) w fun v44 w =>
  kU P (Instr.storeAt 37 v8 v44) w fun _ w =>
  retV P 37 v8 w fun r7 =>
  K (.tuple #[r7, (.int .i64 15)]) w)
  (kV P (Instr.loadAt 37 v4) w fun v46 w =>
  kN P (callN (.func (.func 13) #[] #[]) #[v46, t1]) w fun v48 w =>
  kV P (Instr.extract v48 0) w fun v49 w =>
  kV P (Instr.extract v48 1) w fun v50 w =>
  kU P (Instr.storeAt 37 v4 v49) w fun _ w =>
  joinL (fun J8 =>
  kV P (Instr.fieldAt 37 v4 2) w fun v51 w =>
  kV P (Instr.loadAt 34 v51) w fun v52 w =>
  kV P (binV .quo 23 (.tmp 53) (.const (.int .u64 1073741824)) t1 (.int .u64 1073741824)) w fun v54 w =>
  kN P (callN (.func (.func 39) #[] #[]) #[v52, v54]) w fun v55 w =>
  kV P (Op.unary .not v55) w fun v56 w =>
  condK v56
  (kV P (Instr.buildSlice 34 0 #[]) w fun v57 w =>
  kV P (Instr.fieldAt 37 v4 2) w fun v58 w =>
  kV P (Instr.loadAt 34 v58) w fun v59 w =>
  kV P (Builtin.append_ #[34, 34] 34 #[v57, v59]) w fun v60 w =>
  kV P (binV .quo 23 (.tmp 61) (.const (.int .u64 1073741824)) t1 (.int .u64 1073741824)) w fun v62 w =>
  kV P (Instr.buildSlice 34 1 #[(0, v62)]) w fun v63 w =>
  kV P (Builtin.append_ #[34, 34] 34 #[v60, v63]) w fun v64 w =>
  kV P (Instr.fieldAt 37 v4 2) w fun v65 w =>
  kU P (Instr.storeAt 34 v65 v64) w fun _ w =>
  J8 [] w)
  (J8 [] w)) fun s8 w => ∀ _ : Nat → Value,
  joinL (fun J10 =>
  kV P (Instr.fieldAt 37 v4 3) w fun v66 w =>
  kV P (Instr.loadAt 34 v66) w fun v67 w =>
  kV P (binV .quo 23 (.tmp 68) (.const (.int .u64 2097152)) t1 (.int .u64 2097152)) w fun v69 w =>
  kN P (callN (.func (.func 39) #[] #[]) #[v67, v69]) w fun v70 w =>
  kV P (Op.unary .not v70) w fun v71 w =>
  condK v71
  (kV P (Instr.buildSlice 34 0 #[]) w fun v72 w =>
  kV P (Instr.fieldAt 37 v4 3) w fun v73 w =>
  kV P (Instr.loadAt 34 v73) w fun v74 w =>
  kV P (Builtin.append_ #[34, 34] 34 #[v72, v74]) w fun v75 w =>
  kV P (binV .quo 23 (.tmp 76) (.const (.int .u64 2097152)) t1 (.int .u64 2097152)) w fun v77 w =>
  kV P (Instr.buildSlice 34 1 #[(0, v77)]) w fun v78 w =>
  kV P (Builtin.append_ #[34, 34] 34 #[v75, v78]) w fun v79 w =>
  kV P (Instr.fieldAt 37 v4 3) w fun v80 w =>
  kU P (Instr.storeAt 34 v80 v79) w fun _ w =>
  J10 [] w)
  (J10 [] w)) fun s10 w => ∀ _ : Nat → Value,
  loopT (fun R12 s12 w => ∀ _ : Nat → Value,
  kV P (Instr.fieldAt 37 v4 0) w fun v82 w =>
  kV P (Instr.loadAt 34 v82) w fun v83 w =>
  kV P (Builtin.len_ #[34] 3 #[v83]) w fun v84 w =>
  kV P (binV .lss 3 (.tmp 81) (.tmp 84) (s12.getD 0 undef) v84) w fun v85 w =>
  joinK (fun J14 : Value → World → Prop => gdK (yb v85) true (fun k => kV P (Instr.fieldAt 37 v4 0) w k) w fun v87 w =>
  gdK (yb v85) true (fun k => kV P (Instr.loadAt 34 v87) w k) w fun v88 w =>
  gdK (yb v85) true (fun k => k (s12.getD 0 undef) w) w fun v89 w =>
  gdK (yb v85) true (fun k => kV P (Instr.indexAt 34 v88 v89) w k) w fun v90 w =>
  gdK (yb v85) true (fun k => kV P (Instr.loadAt 23 v90) w k) w fun v91 w =>
  gdK (yb v85) true (fun k => k t1 w) w fun v92 w =>
  gdK (yb v85) true (fun k => kV P (binV .quo 23 (.tmp 92) (.const (.int .u64 4096)) v92 (.int .u64 4096)) w k) w fun v93 w =>
  gdK (yb v85) true (fun k => kV P (binV .lss 23 (.tmp 91) (.tmp 93) v91 v93) w k) w fun v94 w =>
  kN P (pickN v85 v94 (.bool false)) w fun v95_1 w =>
  J14 v95_1 w) fun v95 w =>
  condK v95
  (kV P (binV .add 3 (.tmp 96) (.const (.int .i64 1)) (s12.getD 0 undef) (.int .i64 1)) w fun v97 w =>
  R12 [v97] w)
  (joinL (fun J15 =>
  drewK (fun w =>
  relX fun R21 =>
  postX R21 (fun p21_98 => allX R21 w fun V21 w => True → kV P (Instr.buildSlice 34 0 #[]) w (okX R21 w p21_98)) fun p21_98 =>
  postX R21 (fun p21_99 => allX R21 w fun V21 w => True → kV P (Instr.fieldAt 37 v4 0) w (okX R21 w p21_99)) fun p21_99 =>
  postX R21 (fun p21_100 => allX R21 w fun V21 w => p21_99 (V21 99) w ∧ True → kV P (Instr.loadAt 34 (V21 99)) w (okX R21 w p21_100)) fun p21_100 =>
  postX R21 (fun p21_101 => allX R21 w fun V21 w => True → (okX R21 w p21_101) (s12.getD 0 undef) w) fun p21_101 =>
  postX R21 (fun p21_102 => allX R21 w fun V21 w => p21_100 (V21 100) w ∧ p21_101 (V21 101) w ∧ True → kV P (Instr.sliceAt 34 (V21 100) none (some (V21 101)) none) w (okX R21 w p21_102)) fun p21_102 =>
  postX R21 (fun p21_103 => allX R21 w fun V21 w => p21_98 (V21 98) w ∧ p21_102 (V21 102) w ∧ True → kV P (Builtin.append_ #[34, 34] 34 #[(V21 98), (V21 102)]) w (okX R21 w p21_103)) fun p21_103 =>
  postX R21 (fun p21_104 => allX R21 w fun V21 w => True → (okX R21 w p21_104) t1 w) fun p21_104 =>
  postX R21 (fun p21_105 => allX R21 w fun V21 w => p21_104 (V21 104) w ∧ True → kV P (binV .quo 23 (.tmp 104) (.const (.int .u64 4096)) (V21 104) (.int .u64 4096)) w (okX R21 w p21_105)) fun p21_105 =>
  postX R21 (fun p21_106 => allX R21 w fun V21 w => p21_105 (V21 105) w ∧ True → kV P (Instr.buildSlice 34 1 #[(0, (V21 105))]) w (okX R21 w p21_106)) fun p21_106 =>
  postX R21 (fun p21_107 => allX R21 w fun V21 w => p21_103 (V21 103) w ∧ p21_106 (V21 106) w ∧ True → kV P (Builtin.append_ #[34, 34] 34 #[(V21 103), (V21 106)]) w (okX R21 w p21_107)) fun p21_107 =>
  postX R21 (fun p21_108 => allX R21 w fun V21 w => True → kV P (Instr.fieldAt 37 v4 0) w (okX R21 w p21_108)) fun p21_108 =>
  postX R21 (fun p21_109 => allX R21 w fun V21 w => p21_108 (V21 108) w ∧ True → kV P (Instr.loadAt 34 (V21 108)) w (okX R21 w p21_109)) fun p21_109 =>
  postX R21 (fun p21_110 => allX R21 w fun V21 w => True → (okX R21 w p21_110) (s12.getD 0 undef) w) fun p21_110 =>
  postX R21 (fun p21_111 => allX R21 w fun V21 w => p21_109 (V21 109) w ∧ p21_110 (V21 110) w ∧ True → kV P (Instr.sliceAt 34 (V21 109) (some (V21 110)) none none) w (okX R21 w p21_111)) fun p21_111 =>
  postX R21 (fun p21_112 => allX R21 w fun V21 w => p21_107 (V21 107) w ∧ p21_111 (V21 111) w ∧ True → kV P (Builtin.append_ #[34, 34] 34 #[(V21 107), (V21 111)]) w (okX R21 w p21_112)) fun p21_112 =>
  allX R21 w fun V21 w => p21_98 (V21 98) w ∧ p21_99 (V21 99) w ∧ p21_100 (V21 100) w ∧ p21_101 (V21 101) w ∧ p21_102 (V21 102) w ∧ p21_103 (V21 103) w ∧ p21_104 (V21 104) w ∧ p21_105 (V21 105) w ∧ p21_106 (V21 106) w ∧ p21_107 (V21 107) w ∧ p21_108 (V21 108) w ∧ p21_109 (V21 109) w ∧ p21_110 (V21 110) w ∧ p21_111 (V21 111) w ∧ p21_112 (V21 112) w ∧ True → xDist V21 [] →
  kV P (Instr.fieldAt 37 v4 0) w fun v113 w =>
  kU P (Instr.storeAt 34 v113 (V21 112)) w fun _ w =>
  J15 [] w) w) fun s15 w => ∀ _ : Nat → Value,
  joinL (fun J17 =>
  drewK (fun w =>
  relX fun R20 =>
  postX R20 (fun p20_114 => allX R20 w fun V20 w => True → kV P (Instr.buildSlice 35 0 #[]) w (okX R20 w p20_114)) fun p20_114 =>
  postX R20 (fun p20_115 => allX R20 w fun V20 w => True → kV P (Instr.fieldAt 37 v4 1) w (okX R20 w p20_115)) fun p20_115 =>
  postX R20 (fun p20_116 => allX R20 w fun V20 w => p20_115 (V20 115) w ∧ True → kV P (Instr.loadAt 35 (V20 115)) w (okX R20 w p20_116)) fun p20_116 =>
  postX R20 (fun p20_117 => allX R20 w fun V20 w => True → (okX R20 w p20_117) (s12.getD 0 undef) w) fun p20_117 =>
  postX R20 (fun p20_118 => allX R20 w fun V20 w => p20_116 (V20 116) w ∧ p20_117 (V20 117) w ∧ True → kV P (Instr.sliceAt 35 (V20 116) none (some (V20 117)) none) w (okX R20 w p20_118)) fun p20_118 =>
  postX R20 (fun p20_119 => allX R20 w fun V20 w => p20_114 (V20 114) w ∧ p20_118 (V20 118) w ∧ True → kV P (Builtin.append_ #[35, 35] 35 #[(V20 114), (V20 118)]) w (okX R20 w p20_119)) fun p20_119 =>
  postX R20 (fun p20_120 => allX R20 w fun V20 w => True → kV P (Instr.loadAt 46 v6) w (okX R20 w p20_120)) fun p20_120 =>
  postX R20 (fun p20_121 => allX R20 w fun V20 w => p20_120 (V20 120) w ∧ True → kV P (Instr.buildSlice 35 1 #[(0, (V20 120))]) w (okX R20 w p20_121)) fun p20_121 =>
  postX R20 (fun p20_122 => allX R20 w fun V20 w => p20_119 (V20 119) w ∧ p20_121 (V20 121) w ∧ True → kV P (Builtin.append_ #[35, 35] 35 #[(V20 119), (V20 121)]) w (okX R20 w p20_122)) fun p20_122 =>
  postX R20 (fun p20_123 => allX R20 w fun V20 w => True → kV P (Instr.fieldAt 37 v4 1) w (okX R20 w p20_123)) fun p20_123 =>
  postX R20 (fun p20_124 => allX R20 w fun V20 w => p20_123 (V20 123) w ∧ True → kV P (Instr.loadAt 35 (V20 123)) w (okX R20 w p20_124)) fun p20_124 =>
  postX R20 (fun p20_125 => allX R20 w fun V20 w => True → (okX R20 w p20_125) (s12.getD 0 undef) w) fun p20_125 =>
  postX R20 (fun p20_126 => allX R20 w fun V20 w => p20_124 (V20 124) w ∧ p20_125 (V20 125) w ∧ True → kV P (Instr.sliceAt 35 (V20 124) (some (V20 125)) none none) w (okX R20 w p20_126)) fun p20_126 =>
  postX R20 (fun p20_127 => allX R20 w fun V20 w => p20_122 (V20 122) w ∧ p20_126 (V20 126) w ∧ True → kV P (Builtin.append_ #[35, 35] 35 #[(V20 122), (V20 126)]) w (okX R20 w p20_127)) fun p20_127 =>
  allX R20 w fun V20 w => p20_114 (V20 114) w ∧ p20_115 (V20 115) w ∧ p20_116 (V20 116) w ∧ p20_117 (V20 117) w ∧ p20_118 (V20 118) w ∧ p20_119 (V20 119) w ∧ p20_120 (V20 120) w ∧ p20_121 (V20 121) w ∧ p20_122 (V20 122) w ∧ p20_123 (V20 123) w ∧ p20_124 (V20 124) w ∧ p20_125 (V20 125) w ∧ p20_126 (V20 126) w ∧ p20_127 (V20 127) w ∧ True → xDist V20 [] →
  kV P (Instr.fieldAt 37 v4 1) w fun v128 w =>
  kU P (Instr.storeAt 35 v128 (V20 127)) w fun _ w =>
  J17 [] w) w) fun s17 w => ∀ _ : Nat → Value,
  kV P (Instr.loadAt 37 v4) w fun v129 w =>
  kU P (Instr.storeAt 37 v8 v129) w fun _ w =>
  retV P 37 v8 w fun r19 =>
  K (.tuple #[r19, (.int .i64 0)]) w)) [(.int .i64 0)] w))
theorem F10_eq (P : Program) (t0 t1 t2 t3 : Value) (w : World) (K : Value → World → Prop) : funE P ⟨[(18, 1015), (19, 1014)], [(16, [11])], [(6, [10]), (8, [10]), (13, []), (15, []), (19, []), (20, [])]⟩ Try.f10 [t0, t1, t2, t3] w K = F10 P t0 t1 t2 t3 w K := by kernel_rfl
theorem F10_ok (t0 t1 t2 t3 : Value) (w : World) (K : Value → World → Prop) (h : F10 Try.prog t0 t1 t2 t3 w K) : callsK Try.prog 10 #[t0, t1, t2, t3] w K := calls_of_eq mixedQ Try.func10 (F10_eq _ t0 t1 t2 t3 w K) h

/-- (mintmark/mintmarkref22.Tables).Frames -/
def F11 (P : Program) (t0 : Value) (w : World) (K : Value → World → Prop) : Prop :=
  kV P (Instr.box 37 t0) w fun v1 w =>
  kV P (Instr.fieldAt 37 v1 2) w fun v3 w =>
  kV P (Instr.loadAt 34 v3) w fun v4 w =>
  kV P (Builtin.len_ #[34] 3 #[v4]) w fun v5 w =>
  kV P (binV .add 3 (.const (.int .i64 1)) (.tmp 5) (.int .i64 1) v5) w fun v6 w =>
  kV P (Instr.fieldAt 37 v1 3) w fun v7 w =>
  kV P (Instr.loadAt 34 v7) w fun v8 w =>
  kV P (Builtin.len_ #[34] 3 #[v8]) w fun v9 w =>
  kV P (binV .add 3 (.tmp 6) (.tmp 9) v6 v9) w fun v10 w =>
  K v10 w
theorem F11_eq (P : Program) (t0 : Value) (w : World) (K : Value → World → Prop) : funE P ⟨[], [], []⟩ Try.f11 [t0] w K = F11 P t0 w K := by kernel_rfl
theorem F11_ok (t0 : Value) (w : World) (K : Value → World → Prop) (h : F11 Try.prog t0 w K) : callsK Try.prog 11 #[t0] w K := calls_of_eq mixedQ Try.func11 (F11_eq _ t0 w K) h

/-- (mintmark/mintmarkref22.Tables).Clear -/
def F13 (P : Program) (t0 t1 : Value) (w : World) (K : Value → World → Prop) : Prop :=
  kV P (Instr.box 37 t0) w fun v2 w =>
  kV P (Instr.alloc 37 true (.tuple #[])) w fun v4 w =>
  kV P (binV .geq 23 (.tmp 8) (.const (.int .u64 274877906944)) t1 (.int .u64 274877906944)) w fun v9 w =>
  condK v9
  (kV P (Instr.loadAt 37 v2) w fun v10 w =>
  kU P (Instr.storeAt 37 v4 v10) w fun _ w =>
  retV P 37 v4 w fun r0 =>
  K (.tuple #[r0, (.int .i64 2)]) w)
  (kV P (Instr.fieldAt 37 v2 2) w fun v11 w =>
  kV P (Instr.loadAt 34 v11) w fun v12 w =>
  kV P (Instr.fieldAt 37 v2 3) w fun v13 w =>
  kV P (Instr.loadAt 34 v13) w fun v14 w =>
  kV P (Instr.build 37 #[(2, v12), (3, v14)]) w fun v15 w =>
  kV P (Instr.alloc 37 true (.tuple #[])) w fun v6 w =>
  kU P (Instr.storeAt 37 v6 v15) w fun _ w =>
  loopT (fun R1 s1 w => ∀ _ : Nat → Value,
  kV P (Instr.fieldAt 37 v2 0) w fun v17 w =>
  kV P (Instr.loadAt 34 v17) w fun v18 w =>
  kV P (Builtin.len_ #[34] 3 #[v18]) w fun v19 w =>
  kV P (binV .lss 3 (.tmp 16) (.tmp 19) (s1.getD 0 undef) v19) w fun v20 w =>
  condK v20
  (joinL (fun J3 =>
  kV P (Instr.fieldAt 37 v2 0) w fun v23 w =>
  kV P (Instr.loadAt 34 v23) w fun v24 w =>
  kV P (Instr.indexAt 34 v24 (s1.getD 0 undef)) w fun v26 w =>
  kV P (Instr.loadAt 23 v26) w fun v27 w =>
  kV P (binV .quo 23 (.tmp 28) (.const (.int .u64 4096)) t1 (.int .u64 4096)) w fun v29 w =>
  kV P (binV .neq 23 (.tmp 27) (.tmp 29) v27 v29) w fun v30 w =>
  condK v30
  (joinL (fun J5 =>
  drewK (fun w =>
  pV P (Instr.fieldAt 37 v6 0) fun v31 =>
  pV P (Instr.fieldAt 37 v2 0) fun v33 =>
  (kV P (Instr.loadAt 34 v31) w fun v32 w =>
  kV P (Instr.loadAt 34 v33) w fun v34 w =>
  pV P (Instr.indexAt 34 v34 (s1.getD 0 undef)) fun v36 =>
  kV P (Instr.loadAt 23 v36) w fun v37 w =>
  kV P (Instr.buildSlice 34 1 #[(0, v37)]) w fun v38 w =>
  kV P (Builtin.append_ #[34, 34] 34 #[v32, v38]) w fun v39 w =>
  pV P (Instr.fieldAt 37 v6 0) fun v40 =>
  kU P (Instr.storeAt 34 v40 v39) w fun _ w =>
  J5 [] w) ∧
  (kV P (Instr.loadAt 34 v33) w fun v34_1 w =>
  pV P (Instr.indexAt 34 v34_1 (s1.getD 0 undef)) fun v36_1 =>
  (kV P (Instr.loadAt 34 v31) w fun v32_1 w =>
  kV P (Instr.loadAt 23 v36_1) w fun v37_1 w =>
  kV P (Instr.buildSlice 34 1 #[(0, v37_1)]) w fun v38_1 w =>
  kV P (Builtin.append_ #[34, 34] 34 #[v32_1, v38_1]) w fun v39_1 w =>
  pV P (Instr.fieldAt 37 v6 0) fun v40_1 =>
  kU P (Instr.storeAt 34 v40_1 v39_1) w fun _ w =>
  J5 [] w) ∧
  (kV P (Instr.loadAt 23 v36_1) w fun v37_2 w =>
  (kV P (Instr.loadAt 34 v31) w fun v32_2 w =>
  kV P (Instr.buildSlice 34 1 #[(0, v37_2)]) w fun v38_2 w =>
  kV P (Builtin.append_ #[34, 34] 34 #[v32_2, v38_2]) w fun v39_2 w =>
  pV P (Instr.fieldAt 37 v6 0) fun v40_2 =>
  kU P (Instr.storeAt 34 v40_2 v39_2) w fun _ w =>
  J5 [] w) ∧
  (kV P (Instr.buildSlice 34 1 #[(0, v37_2)]) w fun v38_3 w =>
  kV P (Instr.loadAt 34 v31) w fun v32_3 w =>
  kV P (Builtin.append_ #[34, 34] 34 #[v32_3, v38_3]) w fun v39_3 w =>
  pV P (Instr.fieldAt 37 v6 0) fun v40_3 =>
  kU P (Instr.storeAt 34 v40_3 v39_3) w fun _ w =>
  J5 [] w)))) w) fun s5 w => ∀ _ : Nat → Value,
  drewK (fun w =>
  pV P (Instr.fieldAt 37 v6 1) fun v41 =>
  pV P (Instr.fieldAt 37 v2 1) fun v43 =>
  (kV P (Instr.loadAt 35 v41) w fun v42 w =>
  kV P (Instr.loadAt 35 v43) w fun v44 w =>
  pV P (Instr.indexAt 35 v44 (s1.getD 0 undef)) fun v46 =>
  kV P (Instr.loadAt 46 v46) w fun v47 w =>
  kV P (Instr.buildSlice 35 1 #[(0, v47)]) w fun v48 w =>
  kV P (Builtin.append_ #[35, 35] 35 #[v42, v48]) w fun v49 w =>
  pV P (Instr.fieldAt 37 v6 1) fun v50 =>
  kU P (Instr.storeAt 35 v50 v49) w fun _ w =>
  J3 [] w) ∧
  (kV P (Instr.loadAt 35 v43) w fun v44_1 w =>
  pV P (Instr.indexAt 35 v44_1 (s1.getD 0 undef)) fun v46_1 =>
  (kV P (Instr.loadAt 35 v41) w fun v42_1 w =>
  kV P (Instr.loadAt 46 v46_1) w fun v47_1 w =>
  kV P (Instr.buildSlice 35 1 #[(0, v47_1)]) w fun v48_1 w =>
  kV P (Builtin.append_ #[35, 35] 35 #[v42_1, v48_1]) w fun v49_1 w =>
  pV P (Instr.fieldAt 37 v6 1) fun v50_1 =>
  kU P (Instr.storeAt 35 v50_1 v49_1) w fun _ w =>
  J3 [] w) ∧
  (kV P (Instr.loadAt 46 v46_1) w fun v47_2 w =>
  (kV P (Instr.loadAt 35 v41) w fun v42_2 w =>
  kV P (Instr.buildSlice 35 1 #[(0, v47_2)]) w fun v48_2 w =>
  kV P (Builtin.append_ #[35, 35] 35 #[v42_2, v48_2]) w fun v49_2 w =>
  pV P (Instr.fieldAt 37 v6 1) fun v50_2 =>
  kU P (Instr.storeAt 35 v50_2 v49_2) w fun _ w =>
  J3 [] w) ∧
  (kV P (Instr.buildSlice 35 1 #[(0, v47_2)]) w fun v48_3 w =>
  kV P (Instr.loadAt 35 v41) w fun v42_3 w =>
  kV P (Builtin.append_ #[35, 35] 35 #[v42_3, v48_3]) w fun v49_3 w =>
  pV P (Instr.fieldAt 37 v6 1) fun v50_3 =>
  kU P (Instr.storeAt 35 v50_3 v49_3) w fun _ w =>
  J3 [] w)))) w)
  (J3 [] w)) fun s3 w => ∀ _ : Nat → Value,
  kV P (binV .add 3 (.tmp 21) (.const (.int .i64 1)) (s1.getD 0 undef) (.int .i64 1)) w fun v22 w =>
  R1 [v22] w)
  (kV P (Instr.loadAt 37 v6) w fun v51 w =>
  kU P (Instr.storeAt 37 v4 v51) w fun _ w =>
  retV P 37 v4 w fun r7 =>
  K (.tuple #[r7, (.int .i64 0)]) w)) [(.int .i64 0)] w)
theorem F13_eq (P : Program) (t0 t1 : Value) (w : World) (K : Value → World → Prop) : funE P ⟨[(8, 999), (9, 999)], [(5, [7])], [(6, []), (9, [])]⟩ Try.f13 [t0, t1] w K = F13 P t0 t1 w K := by kernel_rfl
theorem F13_ok (t0 t1 : Value) (w : World) (K : Value → World → Prop) (h : F13 Try.prog t0 t1 w K) : callsK Try.prog 13 #[t0, t1] w K := calls_of_eq mixedQ Try.func13 (F13_eq _ t0 t1 w K) h

/-- (mintmark/mintmarkref22.Tables).Get -/
def F16 (P : Program) (t0 t1 : Value) (w : World) (K : Value → World → Prop) : Prop :=
  kV P (Instr.box 37 t0) w fun v2 w =>
  kV P (Instr.alloc 46 true (.tuple #[])) w fun v4 w =>
  loopT (fun R0 s0 w => ∀ _ : Nat → Value,
  kV P (Instr.fieldAt 37 v2 0) w fun v8 w =>
  kV P (Instr.loadAt 34 v8) w fun v9 w =>
  kV P (Builtin.len_ #[34] 3 #[v9]) w fun v10 w =>
  kV P (binV .lss 3 (.tmp 7) (.tmp 10) (s0.getD 0 undef) v10) w fun v11 w =>
  condK v11
  (kV P (Instr.fieldAt 37 v2 0) w fun v14 w =>
  kV P (Instr.loadAt 34 v14) w fun v15 w =>
  kV P (Instr.indexAt 34 v15 (s0.getD 0 undef)) w fun v17 w =>
  kV P (Instr.loadAt 23 v17) w fun v18 w =>
  kV P (binV .quo 23 (.tmp 19) (.const (.int .u64 4096)) t1 (.int .u64 4096)) w fun v20 w =>
  kV P (binV .eql 23 (.tmp 18) (.tmp 20) v18 v20) w fun v21 w =>
  joinK (fun J2 : Value → World → Prop => gdK (yb v21) true (fun k => k t1 w) w fun v23 w =>
  gdK (yb v21) true (fun k => kV P (binV .lss 23 (.tmp 23) (.const (.int .u64 274877906944)) v23 (.int .u64 274877906944)) w k) w fun v24 w =>
  kN P (pickN v21 v24 (.bool false)) w fun v25_1 w =>
  J2 v25_1 w) fun v25 w =>
  condK v25
  (kV P (Instr.fieldAt 37 v2 1) w fun v26 w =>
  kV P (Instr.loadAt 35 v26) w fun v27 w =>
  kV P (Instr.indexAt 35 v27 (s0.getD 0 undef)) w fun v29 w =>
  kV P (Instr.loadAt 46 v29) w fun v30 w =>
  kU P (Instr.storeAt 46 v4 v30) w fun _ w =>
  retV P 46 v4 w fun r3 =>
  K (.tuple #[r3, (.bool true)]) w)
  (kV P (binV .add 3 (.tmp 12) (.const (.int .i64 1)) (s0.getD 0 undef) (.int .i64 1)) w fun v13 w =>
  R0 [v13] w))
  (kV P (Instr.build 46 #[]) w fun v31 w =>
  kU P (Instr.storeAt 46 v4 v31) w fun _ w =>
  retV P 46 v4 w fun r4 =>
  K (.tuple #[r4, (.bool false)]) w)) [(.int .i64 0)] w
theorem F16_eq (P : Program) (t0 t1 : Value) (w : World) (K : Value → World → Prop) : funE P ⟨[], [(2, [6])], []⟩ Try.f16 [t0, t1] w K = F16 P t0 t1 w K := by kernel_rfl
theorem F16_ok (t0 t1 : Value) (w : World) (K : Value → World → Prop) (h : F16 Try.prog t0 t1 w K) : callsK Try.prog 16 #[t0, t1] w K := calls_of_eq mixedQ Try.func16 (F16_eq _ t0 t1 w K) h

/-- mintmark/mintmarkref09.Leaf -/
def F37 (P : Program) (t0 : Value) (w : World) (K : Value → World → Prop) : Prop :=
  kV P (Instr.box 46 t0) w fun v1 w =>
  kV P (Instr.fieldAt 46 v1 0) w fun v3 w =>
  kV P (Instr.loadAt 4 v3) w fun v4 w =>
  joinK (fun J0 : Value → World → Prop => gdK (yb v4) true (fun k => kV P (Instr.fieldAt 46 v1 1) w k) w fun v6 w =>
  gdK (yb v4) true (fun k => kV P (Instr.loadAt 4 v6) w k) w fun v7 w =>
  gdK (yb v4) true (fun k => k v7 w) w fun v8 w =>
  gdK (yb v8) false (fun k => kV P (Instr.fieldAt 46 v1 2) w k) w fun v9 w =>
  gdK (yb v8) false (fun k => kV P (Instr.loadAt 4 v9) w k) w fun v10 w =>
  gdK (yb v4) true (fun k => kN P (pickN v8 (.bool true) v10) w k) w fun v11 w =>
  gdK (yb v4) true (fun k => k v11 w) w fun v12 w =>
  gdK (yb v12) false (fun k => kV P (Instr.fieldAt 46 v1 3) w k) w fun v13 w =>
  gdK (yb v12) false (fun k => kV P (Instr.loadAt 4 v13) w k) w fun v14 w =>
  gdK (yb v4) true (fun k => kN P (pickN v12 (.bool true) v14) w k) w fun v15 w =>
  kN P (pickN v4 v15 (.bool false)) w fun v16_1 w =>
  J0 v16_1 w) fun v16 w =>
  K v16 w
theorem F37_eq (P : Program) (t0 : Value) (w : World) (K : Value → World → Prop) : funE P ⟨[], [], []⟩ Try.f37 [t0] w K = F37 P t0 w K := by kernel_rfl
theorem F37_ok (t0 : Value) (w : World) (K : Value → World → Prop) (h : F37 Try.prog t0 w K) : callsK Try.prog 37 #[t0] w K := calls_of_eq mixedQ Try.func37 (F37_eq _ t0 w K) h

/-- mintmark/mintmarkref09.Right -/
def F38 (P : Program) (t0 : Value) (w : World) (K : Value → World → Prop) : Prop :=
  kV P (Instr.box 46 t0) w fun v1 w =>
  kV P (Instr.fieldAt 46 v1 0) w fun v3 w =>
  kV P (Instr.loadAt 4 v3) w fun v4 w =>
  kV P (Op.unary .not v4) w fun v5 w =>
  condK v5
  (K (.bool true) w)
  (kV P (Instr.fieldAt 46 v1 2) w fun v6 w =>
  kV P (Instr.loadAt 4 v6) w fun v7 w =>
  joinK (fun J0 : Value → World → Prop => gdK (yb v7) true (fun k => kV P (Instr.fieldAt 46 v1 1) w k) w fun v9 w =>
  gdK (yb v7) true (fun k => kV P (Instr.loadAt 4 v9) w k) w fun v10 w =>
  gdK (yb v7) true (fun k => kV P (Op.unary .not v10) w k) w fun v11 w =>
  kN P (pickN v7 v11 (.bool false)) w fun v12_1 w =>
  J0 v12_1 w) fun v12 w =>
  joinK (fun J1 : Value → World → Prop => gdK (yb v12) false (fun k => kV P (Instr.fieldAt 46 v1 8) w k) w fun v14 w =>
  gdK (yb v12) false (fun k => kV P (Instr.loadAt 4 v14) w k) w fun v15 w =>
  gdK (yb v12) false (fun k => k v15 w) w fun v16 w =>
  gdK (yb v16) true (fun k => kV P (Instr.fieldAt 46 v1 2) w k) w fun v17 w =>
  gdK (yb v16) true (fun k => kV P (Instr.loadAt 4 v17) w k) w fun v18 w =>
  gdK (yb v16) true (fun k => kV P (Op.unary .not v18) w k) w fun v19 w =>
  gdK (yb v12) false (fun k => kN P (pickN v16 v19 (.bool false)) w k) w fun v20 w =>
  kN P (pickN v12 (.bool true) v20) w fun v21_1 w =>
  J1 v21_1 w) fun v21 w =>
  joinK (fun J2 : Value → World → Prop => gdK (yb v21) false (fun k => kV P (Instr.fieldAt 46 v1 9) w k) w fun v23 w =>
  gdK (yb v21) false (fun k => kV P (Instr.loadAt 4 v23) w k) w fun v24 w =>
  gdK (yb v21) false (fun k => k v24 w) w fun v25 w =>
  gdK (yb v25) true (fun k => kV P (Instr.fieldAt 46 v1 1) w k) w fun v26 w =>
  gdK (yb v25) true (fun k => kV P (Instr.loadAt 4 v26) w k) w fun v27 w =>
  gdK (yb v25) true (fun k => kV P (Op.unary .not v27) w k) w fun v28 w =>
  gdK (yb v21) false (fun k => kN P (pickN v25 v28 (.bool false)) w k) w fun v29 w =>
  kN P (pickN v21 (.bool true) v29) w fun v30_1 w =>
  J2 v30_1 w) fun v30 w =>
  joinK (fun J3 : Value → World → Prop => gdK (yb v30) false (fun k => kV P (Instr.fieldAt 46 v1 12) w k) w fun v32 w =>
  gdK (yb v30) false (fun k => kV P (Instr.loadAt 23 v32) w k) w fun v33 w =>
  gdK (yb v30) false (fun k => kV P (binV .geq 23 (.tmp 33) (.const (.int .u64 17592186044416)) v33 (.int .u64 17592186044416)) w k) w fun v34 w =>
  kN P (pickN v30 (.bool true) v34) w fun v35_1 w =>
  J3 v35_1 w) fun v35 w =>
  condK v35
  (K (.bool false) w)
  (kV P (Instr.loadAt 46 v1) w fun v36 w =>
  kN P (callN (.func (.func 37) #[] #[]) #[v36]) w fun v37 w =>
  joinK (fun J4 : Value → World → Prop => gdK (yb v37) false (fun k => kV P (Instr.fieldAt 46 v1 4) w k) w fun v39 w =>
  gdK (yb v37) false (fun k => kV P (Instr.loadAt 4 v39) w k) w fun v40 w =>
  gdK (yb v37) false (fun k => kV P (Op.unary .not v40) w k) w fun v41 w =>
  gdK (yb v37) false (fun k => k v41 w) w fun v42 w =>
  gdK (yb v42) true (fun k => kV P (Instr.fieldAt 46 v1 6) w k) w fun v43 w =>
  gdK (yb v42) true (fun k => kV P (Instr.loadAt 4 v43) w k) w fun v44 w =>
  gdK (yb v42) true (fun k => kV P (Op.unary .not v44) w k) w fun v45 w =>
  gdK (yb v37) false (fun k => kN P (pickN v42 v45 (.bool false)) w k) w fun v46 w =>
  gdK (yb v37) false (fun k => k v46 w) w fun v47 w =>
  gdK (yb v47) true (fun k => kV P (Instr.fieldAt 46 v1 7) w k) w fun v48 w =>
  gdK (yb v47) true (fun k => kV P (Instr.loadAt 4 v48) w k) w fun v49 w =>
  gdK (yb v47) true (fun k => kV P (Op.unary .not v49) w k) w fun v50 w =>
  gdK (yb v37) false (fun k => kN P (pickN v47 v50 (.bool false)) w k) w fun v51 w =>
  gdK (yb v37) false (fun k => k v51 w) w fun v52 w =>
  gdK (yb v52) true (fun k => kV P (Instr.fieldAt 46 v1 8) w k) w fun v53 w =>
  gdK (yb v52) true (fun k => kV P (Instr.loadAt 4 v53) w k) w fun v54 w =>
  gdK (yb v52) true (fun k => kV P (Op.unary .not v54) w k) w fun v55 w =>
  gdK (yb v37) false (fun k => kN P (pickN v52 v55 (.bool false)) w k) w fun v56 w =>
  gdK (yb v37) false (fun k => k v56 w) w fun v57 w =>
  gdK (yb v57) true (fun k => kV P (Instr.fieldAt 46 v1 9) w k) w fun v58 w =>
  gdK (yb v57) true (fun k => kV P (Instr.loadAt 4 v58) w k) w fun v59 w =>
  gdK (yb v57) true (fun k => kV P (Op.unary .not v59) w k) w fun v60 w =>
  gdK (yb v37) false (fun k => kN P (pickN v57 v60 (.bool false)) w k) w fun v61 w =>
  gdK (yb v37) false (fun k => k v61 w) w fun v62 w =>
  gdK (yb v62) true (fun k => kV P (Instr.fieldAt 46 v1 10) w k) w fun v63 w =>
  gdK (yb v62) true (fun k => kV P (Instr.loadAt 4 v63) w k) w fun v64 w =>
  gdK (yb v62) true (fun k => kV P (Op.unary .not v64) w k) w fun v65 w =>
  gdK (yb v37) false (fun k => kN P (pickN v62 v65 (.bool false)) w k) w fun v66 w =>
  gdK (yb v37) false (fun k => k v66 w) w fun v67 w =>
  gdK (yb v67) true (fun k => kV P (Instr.fieldAt 46 v1 11) w k) w fun v68 w =>
  gdK (yb v67) true (fun k => kV P (Instr.loadAt 4 v68) w k) w fun v69 w =>
  gdK (yb v67) true (fun k => kV P (Op.unary .not v69) w k) w fun v70 w =>
  gdK (yb v37) false (fun k => kN P (pickN v67 v70 (.bool false)) w k) w fun v71 w =>
  kN P (pickN v37 (.bool true) v71) w fun v72_1 w =>
  J4 v72_1 w) fun v72 w =>
  K v72 w))
theorem F38_eq (P : Program) (t0 : Value) (w : World) (K : Value → World → Prop) : funE P ⟨[], [], []⟩ Try.f38 [t0] w K = F38 P t0 w K := by kernel_rfl
theorem F38_ok (t0 : Value) (w : World) (K : Value → World → Prop) (h : F38 Try.prog t0 w K) : callsK Try.prog 38 #[t0] w K := calls_of_eq mixedQ Try.func38 (F38_eq _ t0 w K) h

/-- mintmark/mintmarkref22.has -/
def F39 (P : Program) (t0 t1 : Value) (w : World) (K : Value → World → Prop) : Prop :=
  loopT (fun R0 s0 w => ∀ _ : Nat → Value,
  kV P (Builtin.len_ #[34] 3 #[t0]) w fun v8 w =>
  kV P (binV .lss 3 (.tmp 6) (.tmp 8) (s0.getD 0 undef) v8) w fun v9 w =>
  condK v9
  (kV P (Instr.indexAt 34 t0 (s0.getD 0 undef)) w fun v14 w =>
  kV P (Instr.loadAt 23 v14) w fun v15 w =>
  kV P (binV .eql 23 (.tmp 15) (.tmp 16) v15 t1) w fun v17 w =>
  condK v17
  (K (.bool true) w)
  (kV P (binV .add 3 (.tmp 10) (.const (.int .i64 1)) (s0.getD 0 undef) (.int .i64 1)) w fun v11 w =>
  R0 [v11] w))
  (K (.bool false) w)) [(.int .i64 0)] w
theorem F39_eq (P : Program) (t0 t1 : Value) (w : World) (K : Value → World → Prop) : funE P ⟨[], [(2, [5])], []⟩ Try.f39 [t0, t1] w K = F39 P t0 t1 w K := by kernel_rfl
theorem F39_ok (t0 t1 : Value) (w : World) (K : Value → World → Prop) (h : F39 Try.prog t0 t1 w K) : callsK Try.prog 39 #[t0, t1] w K := calls_of_eq mixedQ Try.func39 (F39_eq _ t0 t1 w K) h

end Go.Proofs.Ytfpcflmgipklcaa
