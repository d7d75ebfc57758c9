/- The formulas of functions of this seat, each tied to its calls; conditions: none. -/
import Derived.Test.YtbigiabcgplkgaaProg
import Derived.Test.YtbigiabcgplkgaaFx
import Derived.KernelRfl
namespace Go.Proofs.Ytbigiabcgplkgaa
open Go.Fx
set_option linter.unusedVariables false
set_option linter.constructorNameAsVariable false
set_option maxRecDepth 100000
theorem mixedU : Try.prog.follows .mixedOrders = true := by kernel_rfl
/-- mintmark/mintmarklaw12.MmuPlays -/
def F10 (P : Program) (t0 : Value) (w : World) (K : Value → World → Prop) : Prop :=
  kN P (callN (.func (.func 27) #[] #[]) #[]) w fun v26 w =>
  kV P (Instr.extract v26 0) w fun v27 w =>
  kV P (Instr.extract v26 1) w fun v28 w =>
  kV P (Instr.alloc 28 true (.tuple #[])) w fun v4 w =>
  kU P (Instr.storeAt 28 v4 v28) w fun _ w =>
  kV P (Instr.alloc 74 true (.tuple #[])) w fun v5 w =>
  kV P (Instr.alloc 89 true (.tuple #[])) w fun v6 w =>
  loopT (fun R0 s0 w => ∀ _ : Nat → Value,
  kV P (Builtin.len_ #[84] 3 #[t0]) w fun v31 w =>
  kV P (binV .lss 3 (.tmp 29) (.tmp 31) (s0.getD 0 undef) v31) w fun v32 w =>
  joinK (fun J2 : Value → World → Prop => gdK (yb v32) true (fun k => k (s0.getD 0 undef) w) w fun v34 w =>
  gdK (yb v32) true (fun k => kV P (binV .lss 3 (.tmp 34) (.const (.int .i64 60)) v34 (.int .i64 60)) w k) w fun v35 w =>
  kN P (pickN v32 v35 (.bool false)) w fun v36_1 w =>
  J2 v36_1 w) fun v36 w =>
  condK v36
  (kV P (Instr.indexAt 84 t0 (s0.getD 0 undef)) w fun v41 w =>
  kV P (Instr.loadAt 91 v41) w fun v42 w =>
  kV P (Instr.alloc 91 true (.tuple #[])) w fun v8 w =>
  kU P (Instr.storeAt 91 v8 v42) w fun _ w =>
  joinL (fun J3 =>
  kV P (Instr.fieldAt 91 v8 0) w fun v43 w =>
  kV P (Instr.loadAt 3 v43) w fun v44 w =>
  kV P (binV .eql 3 (.tmp 44) (.const (.int .i64 0)) v44 (.int .i64 0)) w fun v46 w =>
  condK v46
  (kV P (Instr.fieldAt 91 v8 3) w fun v49 w =>
  kV P (Instr.loadAt 23 v49) w fun v50 w =>
  kV P (Instr.fieldAt 91 v8 1) w fun v51 w =>
  kV P (Instr.loadAt 3 v51) w fun v52 w =>
  kV P (Instr.fieldAt 91 v8 4) w fun v53 w =>
  kV P (Instr.loadAt 4 v53) w fun v54 w =>
  kN P (callN (.func (.func 28) #[] #[]) #[v5, v27, v50, v52, v54]) w fun v55 w =>
  kV P (Instr.extract v55 0) w fun v56 w =>
  kV P (Instr.extract v55 1) w fun v57 w =>
  kV P (Instr.alloc 76 true (.tuple #[])) w fun v9 w =>
  kU P (Instr.storeAt 76 v9 v56) w fun _ w =>
  kV P (Instr.loadAt 89 v6) w fun v59 w =>
  kV P (Instr.loadAt 28 v4) w fun v60 w =>
  kV P (Instr.fieldAt 91 v8 3) w fun v61 w =>
  kV P (Instr.loadAt 23 v61) w fun v62 w =>
  kV P (Instr.fieldAt 91 v8 1) w fun v63 w =>
  kV P (Instr.loadAt 3 v63) w fun v64 w =>
  kV P (Instr.fieldAt 91 v8 4) w fun v65 w =>
  kV P (Instr.loadAt 4 v65) w fun v66 w =>
  kN P (callN (.func (.func 32) #[] #[]) #[v59, v60, v62, v64, v66]) w fun v67 w =>
  kV P (Instr.extract v67 0) w fun v68 w =>
  kV P (Instr.extract v67 1) w fun v69 w =>
  kV P (Instr.extract v67 2) w fun v70 w =>
  kV P (Instr.extract v67 3) w fun v71 w =>
  kV P (Instr.alloc 89 true (.tuple #[])) w fun v11 w =>
  kV P (Instr.alloc 28 true (.tuple #[])) w fun v12 w =>
  kV P (Instr.alloc 92 true (.tuple #[])) w fun v13 w =>
  kU P (Instr.storeAt 89 v11 v68) w fun _ w =>
  kU P (Instr.storeAt 28 v12 v69) w fun _ w =>
  kU P (Instr.storeAt 92 v13 v70) w fun _ w =>
  kV P (Instr.loadAt 76 v9) w fun v72 w =>
  kV P (Instr.loadAt 92 v13) w fun v73 w =>
  kV P (binV .neq 92 (.tmp 72) (.tmp 73) v72 v73) w fun v74 w =>
  joinK (fun J7 : Value → World → Prop => gdK (yb v74) false (fun k => k v57 w) w fun v76 w =>
  gdK (yb v74) false (fun k => k v71 w) w fun v77 w =>
  gdK (yb v74) false (fun k => kV P (binV .neq 3 (.tmp 76) (.tmp 77) v76 v77) w k) w fun v78 w =>
  kN P (pickN v74 (.bool true) v78) w fun v79_1 w =>
  J7 v79_1 w) fun v79 w =>
  condK v79
  (K (.bool false) w)
  (drewK (fun w =>
  (kV P (Instr.loadAt 89 v11) w fun v80 w =>
  (kV P (Instr.loadAt 28 v12) w fun v81 w =>
  kU P (Instr.storeAt 89 v6 v80) w fun _ w =>
  kU P (Instr.storeAt 28 v4 v81) w fun _ w =>
  J3 [] w) ∧
  (kU P (Instr.storeAt 89 v6 v80) w fun _ w =>
  kV P (Instr.loadAt 28 v12) w fun v81_1 w =>
  kU P (Instr.storeAt 28 v4 v81_1) w fun _ w =>
  J3 [] w)) ∧
  (kV P (Instr.loadAt 28 v12) w fun v81_2 w =>
  kV P (Instr.loadAt 89 v11) w fun v80_1 w =>
  kU P (Instr.storeAt 89 v6 v80_1) w fun _ w =>
  kU P (Instr.storeAt 28 v4 v81_2) w fun _ w =>
  J3 [] w)) w))
  (kV P (binV .eql 3 (.tmp 44) (.const (.int .i64 1)) v44 (.int .i64 1)) w fun v83 w =>
  condK v83
  (kV P (Instr.fieldAt 91 v8 3) w fun v86 w =>
  kV P (Instr.loadAt 23 v86) w fun v87 w =>
  kV P (Instr.fieldAt 91 v8 1) w fun v88 w =>
  kV P (Instr.loadAt 3 v88) w fun v89 w =>
  kV P (Instr.fieldAt 91 v8 4) w fun v90 w =>
  kV P (Instr.loadAt 4 v90) w fun v91 w =>
  kN P (callN (.func (.func 33) #[] #[]) #[v5, v27, v87, v89, v91]) w fun v92 w =>
  kV P (Instr.extract v92 0) w fun v93 w =>
  kV P (Instr.extract v92 1) w fun v94 w =>
  kV P (Instr.alloc 76 true (.tuple #[])) w fun v15 w =>
  kU P (Instr.storeAt 76 v15 v93) w fun _ w =>
  kV P (Instr.loadAt 89 v6) w fun v96 w =>
  kV P (Instr.loadAt 28 v4) w fun v97 w =>
  kV P (Instr.fieldAt 91 v8 3) w fun v98 w =>
  kV P (Instr.loadAt 23 v98) w fun v99 w =>
  kV P (Instr.fieldAt 91 v8 1) w fun v100 w =>
  kV P (Instr.loadAt 3 v100) w fun v101 w =>
  kV P (Instr.fieldAt 91 v8 4) w fun v102 w =>
  kV P (Instr.loadAt 4 v102) w fun v103 w =>
  kN P (callN (.func (.func 34) #[] #[]) #[v96, v97, v99, v101, v103]) w fun v104 w =>
  kV P (Instr.extract v104 0) w fun v105 w =>
  kV P (Instr.extract v104 1) w fun v106 w =>
  kV P (Instr.alloc 92 true (.tuple #[])) w fun v17 w =>
  kU P (Instr.storeAt 92 v17 v105) w fun _ w =>
  kV P (Instr.loadAt 76 v15) w fun v107 w =>
  kV P (Instr.loadAt 92 v17) w fun v108 w =>
  kV P (binV .neq 92 (.tmp 107) (.tmp 108) v107 v108) w fun v109 w =>
  joinK (fun J8 : Value → World → Prop => gdK (yb v109) false (fun k => k v94 w) w fun v111 w =>
  gdK (yb v109) false (fun k => k v106 w) w fun v112 w =>
  gdK (yb v109) false (fun k => kV P (binV .neq 3 (.tmp 111) (.tmp 112) v111 v112) w k) w fun v113 w =>
  kN P (pickN v109 (.bool true) v113) w fun v114_1 w =>
  J8 v114_1 w) fun v114 w =>
  condK v114
  (K (.bool false) w)
  (J3 [] w))
  (kV P (binV .eql 3 (.tmp 44) (.const (.int .i64 2)) v44 (.int .i64 2)) w fun v116 w =>
  condK v116
  (kV P (Instr.fieldAt 91 v8 2) w fun v117 w =>
  kV P (Instr.loadAt 3 v117) w fun v118 w =>
  kV P (binV .and 3 (.tmp 118) (.const (.int .i64 15)) v118 (.int .i64 15)) w fun v119 w =>
  kV P (convert 3 23 v119) w fun v120 w =>
  kV P (binV .mul 23 (.const (.int .u64 8)) (.tmp 120) (.int .u64 8) v120) w fun v121 w =>
  kV P (binV .add 23 (.const (.int .u64 8192)) (.tmp 121) (.int .u64 8192) v121) w fun v122 w =>
  kV P (Instr.fieldAt 91 v8 5) w fun v125 w =>
  kV P (Instr.loadAt 32 v125) w fun v126 w =>
  kN P (callN (.func (.func 16) #[] #[]) #[v126]) w fun v127 w =>
  kN P (callN (.func (.func 15) #[] #[]) #[v27, v122, (.int .i64 8), v127]) w fun v128 w =>
  drewK (fun w =>
  pV P (Instr.fieldAt 91 v8 5) fun v132 =>
  (kV P (Instr.loadAt 28 v4) w fun v130 w =>
  kV P (Instr.loadAt 32 v132) w fun v133 w =>
  kN P (callN (.func (.func 36) #[] #[]) #[v133]) w fun v134 w =>
  kN P (callN (.func (.func 35) #[] #[]) #[v130, v122, (.int .i64 8), v134]) w fun v135 w =>
  pV P (Instr.extract v135 0) fun v136 =>
  pV P (Instr.extract v135 1) fun v137 =>
  kU P (Instr.storeAt 28 v4 v136) w fun _ w =>
  J3 [] w) ∧
  (kV P (Instr.loadAt 32 v132) w fun v133_1 w =>
  (kV P (Instr.loadAt 28 v4) w fun v130_1 w =>
  kN P (callN (.func (.func 36) #[] #[]) #[v133_1]) w fun v134_1 w =>
  kN P (callN (.func (.func 35) #[] #[]) #[v130_1, v122, (.int .i64 8), v134_1]) w fun v135_1 w =>
  pV P (Instr.extract v135_1 0) fun v136_1 =>
  pV P (Instr.extract v135_1 1) fun v137_1 =>
  kU P (Instr.storeAt 28 v4 v136_1) w fun _ w =>
  J3 [] w) ∧
  (kN P (callN (.func (.func 36) #[] #[]) #[v133_1]) w fun v134_2 w =>
  kV P (Instr.loadAt 28 v4) w fun v130_2 w =>
  kN P (callN (.func (.func 35) #[] #[]) #[v130_2, v122, (.int .i64 8), v134_2]) w fun v135_2 w =>
  pV P (Instr.extract v135_2 0) fun v136_2 =>
  pV P (Instr.extract v135_2 1) fun v137_2 =>
  kU P (Instr.storeAt 28 v4 v136_2) w fun _ w =>
  J3 [] w))) w)
  (kV P (binV .eql 3 (.tmp 44) (.const (.int .i64 3)) v44 (.int .i64 3)) w fun v139 w =>
  condK v139
  (kV P (Instr.fieldAt 74 v5 0) w fun v140 w =>
  kV P (Instr.fieldAt 74 v5 2) w fun v141 w =>
  kV P (Instr.loadAt 23 v141) w fun v142 w =>
  kV P (Instr.fieldAt 91 v8 3) w fun v143 w =>
  kV P (Instr.loadAt 23 v143) w fun v144 w =>
  kV P (binV .quo 23 (.tmp 144) (.const (.int .u64 4096)) v144 (.int .u64 4096)) w fun v145 w =>
  kN P (callN (.func (.func 37) #[] #[]) #[v140, v142, v145]) w fun v146 w =>
  kV P (Instr.fieldAt 89 v6 0) w fun v147 w =>
  kV P (Instr.loadAt 86 v147) w fun v148 w =>
  kV P (Instr.fieldAt 89 v6 3) w fun v149 w =>
  kV P (Instr.loadAt 23 v149) w fun v150 w =>
  kV P (Instr.fieldAt 91 v8 3) w fun v151 w =>
  kV P (Instr.loadAt 23 v151) w fun v152 w =>
  kV P (binV .quo 23 (.tmp 152) (.const (.int .u64 4096)) v152 (.int .u64 4096)) w fun v153 w =>
  kN P (callN (.func (.func 38) #[] #[]) #[v148, v150, v153]) w fun v154 w =>
  kV P (Instr.fieldAt 89 v6 0) w fun v155 w =>
  kU P (Instr.storeAt 86 v155 v154) w fun _ w =>
  J3 [] w)
  (kV P (binV .eql 3 (.tmp 44) (.const (.int .i64 4)) v44 (.int .i64 4)) w fun v157 w =>
  condK v157
  (kV P (Instr.fieldAt 74 v5 0) w fun v158 w =>
  kV P (Instr.fieldAt 91 v8 2) w fun v159 w =>
  kV P (Instr.loadAt 3 v159) w fun v160 w =>
  kV P (convert 3 23 v160) w fun v161 w =>
  kN P (callN (.func (.func 31) #[] #[]) #[v158, v161]) w fun v162 w =>
  kV P (Instr.fieldAt 89 v6 0) w fun v163 w =>
  kV P (Instr.loadAt 86 v163) w fun v164 w =>
  kV P (Instr.fieldAt 91 v8 2) w fun v165 w =>
  kV P (Instr.loadAt 3 v165) w fun v166 w =>
  kV P (convert 3 23 v166) w fun v167 w =>
  kN P (callN (.func (.func 39) #[] #[]) #[v164, v167]) w fun v168 w =>
  kV P (Instr.fieldAt 89 v6 0) w fun v169 w =>
  kU P (Instr.storeAt 86 v169 v168) w fun _ w =>
  J3 [] w)
  (kV P (binV .eql 3 (.tmp 44) (.const (.int .i64 5)) v44 (.int .i64 5)) w fun v171 w =>
  condK v171
  (kV P (Instr.fieldAt 74 v5 0) w fun v172 w =>
  kN P (callN (.func (.func 40) #[] #[]) #[v172]) w fun v173 w =>
  kV P (Instr.fieldAt 89 v6 0) w fun v174 w =>
  kU P (Instr.storeAt 86 v174 (.slice none 0 0)) w fun _ w =>
  J3 [] w)
  (kV P (binV .eql 3 (.tmp 44) (.const (.int .i64 6)) v44 (.int .i64 6)) w fun v176 w =>
  condK v176
  (kV P (Instr.fieldAt 74 v5 0) w fun v177 w =>
  kV P (Instr.fieldAt 91 v8 2) w fun v178 w =>
  kV P (Instr.loadAt 3 v178) w fun v179 w =>
  kN P (callN (.func (.func 41) #[] #[]) #[v177, v179]) w fun v180 w =>
  kV P (Instr.fieldAt 89 v6 0) w fun v181 w =>
  kV P (Instr.loadAt 86 v181) w fun v182 w =>
  kV P (Instr.fieldAt 91 v8 2) w fun v183 w =>
  kV P (Instr.loadAt 3 v183) w fun v184 w =>
  kN P (callN (.func (.func 42) #[] #[]) #[v182, v184]) w fun v185 w =>
  kV P (Instr.fieldAt 89 v6 0) w fun v186 w =>
  kU P (Instr.storeAt 86 v186 v185) w fun _ w =>
  J3 [] w)
  (kV P (binV .eql 3 (.tmp 44) (.const (.int .i64 7)) v44 (.int .i64 7)) w fun v188 w =>
  condK v188
  (drewK (fun w =>
  pV P (Instr.fieldAt 74 v5 3) fun v189 =>
  pV P (Instr.fieldAt 89 v6 4) fun v192 =>
  (kV P (Instr.loadAt 4 v189) w fun v190 w =>
  pV P (Op.unary .not v190) fun v191 =>
  pV P (Instr.fieldAt 74 v5 3) fun v195 =>
  (kV P (Instr.loadAt 4 v192) w fun v193 w =>
  pV P (Op.unary .not v193) fun v194 =>
  kU P (Instr.storeAt 4 v195 v191) w fun _ w =>
  pV P (Instr.fieldAt 89 v6 4) fun v196 =>
  kU P (Instr.storeAt 4 v196 v194) w fun _ w =>
  J3 [] w) ∧
  (kU P (Instr.storeAt 4 v195 v191) w fun _ w =>
  kV P (Instr.loadAt 4 v192) w fun v193_1 w =>
  pV P (Op.unary .not v193_1) fun v194_1 =>
  pV P (Instr.fieldAt 89 v6 4) fun v196_1 =>
  kU P (Instr.storeAt 4 v196_1 v194_1) w fun _ w =>
  J3 [] w)) ∧
  (kV P (Instr.loadAt 4 v192) w fun v193_2 w =>
  pV P (Op.unary .not v193_2) fun v194_2 =>
  kV P (Instr.loadAt 4 v189) w fun v190_1 w =>
  pV P (Op.unary .not v190_1) fun v191_1 =>
  pV P (Instr.fieldAt 74 v5 3) fun v195_1 =>
  kU P (Instr.storeAt 4 v195_1 v191_1) w fun _ w =>
  pV P (Instr.fieldAt 89 v6 4) fun v196_2 =>
  kU P (Instr.storeAt 4 v196_2 v194_2) w fun _ w =>
  J3 [] w)) w)
  (kV P (binV .eql 3 (.tmp 44) (.const (.int .i64 8)) v44 (.int .i64 8)) w fun v198 w =>
  condK v198
  (drewK (fun w =>
  pV P (Instr.fieldAt 91 v8 2) fun v199 =>
  pV P (Instr.fieldAt 91 v8 2) fun v203 =>
  (kV P (Instr.loadAt 3 v199) w fun v200 w =>
  pV P (binV .and 3 (.tmp 200) (.const (.int .i64 1)) v200 (.int .i64 1)) fun v201 =>
  pV P (convert 3 23 v201) fun v202 =>
  pV P (Instr.fieldAt 74 v5 2) fun v207 =>
  (kV P (Instr.loadAt 3 v203) w fun v204 w =>
  pV P (binV .and 3 (.tmp 204) (.const (.int .i64 1)) v204 (.int .i64 1)) fun v205 =>
  pV P (convert 3 23 v205) fun v206 =>
  kU P (Instr.storeAt 23 v207 v202) w fun _ w =>
  pV P (Instr.fieldAt 89 v6 3) fun v208 =>
  kU P (Instr.storeAt 23 v208 v206) w fun _ w =>
  J3 [] w) ∧
  (kU P (Instr.storeAt 23 v207 v202) w fun _ w =>
  kV P (Instr.loadAt 3 v203) w fun v204_1 w =>
  pV P (binV .and 3 (.tmp 204) (.const (.int .i64 1)) v204_1 (.int .i64 1)) fun v205_1 =>
  pV P (convert 3 23 v205_1) fun v206_1 =>
  pV P (Instr.fieldAt 89 v6 3) fun v208_1 =>
  kU P (Instr.storeAt 23 v208_1 v206_1) w fun _ w =>
  J3 [] w)) ∧
  (kV P (Instr.loadAt 3 v203) w fun v204_2 w =>
  pV P (binV .and 3 (.tmp 204) (.const (.int .i64 1)) v204_2 (.int .i64 1)) fun v205_2 =>
  pV P (convert 3 23 v205_2) fun v206_2 =>
  kV P (Instr.loadAt 3 v199) w fun v200_1 w =>
  pV P (binV .and 3 (.tmp 200) (.const (.int .i64 1)) v200_1 (.int .i64 1)) fun v201_1 =>
  pV P (convert 3 23 v201_1) fun v202_1 =>
  pV P (Instr.fieldAt 74 v5 2) fun v207_1 =>
  kU P (Instr.storeAt 23 v207_1 v202_1) w fun _ w =>
  pV P (Instr.fieldAt 89 v6 3) fun v208_2 =>
  kU P (Instr.storeAt 23 v208_2 v206_2) w fun _ w =>
  J3 [] w)) w)
  (J3 [] w)))))))))) fun s3 w => ∀ _ : Nat → Value,
  joinL (fun J5 =>
  drewK (fun w =>
  pV P (Instr.fieldAt 74 v5 0) fun v209 =>
  pV P (Instr.fieldAt 89 v6 0) fun v212 =>
  (kN P (callN (.func (.func 43) #[] #[]) #[v209]) w fun v210 w =>
  pV P (Builtin.len_ #[105] 3 #[v210]) fun v211 =>
  kV P (Instr.loadAt 86 v212) w fun v213 w =>
  pV P (Builtin.len_ #[86] 3 #[v213]) fun v214 =>
  pV P (binV .neq 3 (.tmp 211) (.tmp 214) v211 v214) fun v215 =>
  J5 [v215] w) ∧
  (kV P (Instr.loadAt 86 v212) w fun v213_1 w =>
  pV P (Builtin.len_ #[86] 3 #[v213_1]) fun v214_1 =>
  kN P (callN (.func (.func 43) #[] #[]) #[v209]) w fun v210_1 w =>
  pV P (Builtin.len_ #[105] 3 #[v210_1]) fun v211_1 =>
  pV P (binV .neq 3 (.tmp 211) (.tmp 214) v211_1 v214_1) fun v215_1 =>
  J5 [v215_1] w)) w) fun s5 w => ∀ _ : Nat → Value,
  condK (s5.getD 0 undef)
  (K (.bool false) w)
  (kV P (binV .add 3 (.tmp 37) (.const (.int .i64 1)) (s0.getD 0 undef) (.int .i64 1)) w fun v38 w =>
  R0 [v38] w))
  (loopT (fun R9 s9 w => ∀ _ : Nat → Value,
  kV P (binV .lss 3 (.tmp 216) (.const (.int .i64 16)) (s9.getD 0 undef) (.int .i64 16)) w fun v217 w =>
  condK v217
  (kV P (convert 3 23 (s9.getD 0 undef)) w fun v223 w =>
  kV P (binV .mul 23 (.const (.int .u64 8)) (.tmp 223) (.int .u64 8) v223) w fun v224 w =>
  kV P (binV .add 23 (.const (.int .u64 8192)) (.tmp 224) (.int .u64 8192) v224) w fun v225 w =>
  kN P (callN (.func (.func 29) #[] #[]) #[v27, v225, (.int .i64 8)]) w fun v226 w =>
  kV P (Instr.extract v226 0) w fun v227 w =>
  kV P (Instr.extract v226 1) w fun v228 w =>
  kV P (Instr.loadAt 28 v4) w fun v230 w =>
  kV P (convert 3 23 (s9.getD 0 undef)) w fun v232 w =>
  kV P (binV .mul 23 (.const (.int .u64 8)) (.tmp 232) (.int .u64 8) v232) w fun v233 w =>
  kV P (binV .add 23 (.const (.int .u64 8192)) (.tmp 233) (.int .u64 8192) v233) w fun v234 w =>
  kN P (callN (.func (.func 44) #[] #[]) #[v230, v234, (.int .i64 8)]) w fun v235 w =>
  kV P (Instr.extract v235 0) w fun v236 w =>
  kV P (Instr.extract v235 1) w fun v237 w =>
  kV P (binV .neq 23 (.tmp 238) (.tmp 239) v227 v236) w fun v240 w =>
  condK v240
  (K (.bool false) w)
  (kV P (binV .add 3 (.tmp 218) (.const (.int .i64 1)) (s9.getD 0 undef) (.int .i64 1)) w fun v219 w =>
  R9 [v219] w))
  (kN P (callN (.func (.func 30) #[] #[]) #[]) w fun v241 w =>
  K v241 w)) [(.int .i64 0)] w)) [(.int .i64 0)] w
theorem F10_eq (P : Program) (t0 : Value) (w : World) (K : Value → World → Prop) : funE P ⟨[(39, 999), (37, 999), (23, 999), (14, 999), (40, 999)], [(5, [7]), (43, [20])], [(40, []), (41, [215])]⟩ Try.f10 [t0] w K = F10 P t0 w K := by kernel_rfl
theorem F10_ok (t0 : Value) (w : World) (K : Value → World → Prop) (h : F10 Try.prog t0 w K) : callsK Try.prog 10 #[t0] w K := calls_of_eq mixedU Try.func10 (F10_eq _ t0 w K) h

/-- mintmark/mintmarklaw12.setup -/
def F27 (P : Program) (w : World) (K : Value → World → Prop) : Prop :=
  kV P (Instr.alloc 28 true (.tuple #[])) w fun v1 w =>
  kN P (callN (.func (.func 45) #[] #[]) #[(.int .i64 8)]) w fun v9 w =>
  kV P (Instr.extract v9 0) w fun v10 w =>
  kV P (Instr.extract v9 1) w fun v11 w =>
  kN P (callN (.func (.func 46) #[] #[]) #[(.int .i64 8)]) w fun v13 w =>
  kV P (Instr.extract v13 0) w fun v14 w =>
  kV P (Instr.extract v13 1) w fun v15 w =>
  kV P (Instr.alloc 28 true (.tuple #[])) w fun v4 w =>
  kU P (Instr.storeAt 28 v4 v14) w fun _ w =>
  loopT (fun R0 s0 w => ∀ _ : Nat → Value,
  kV P (binV .lss 3 (.tmp 16) (.const (.int .i64 2)) (s0.getD 0 undef) (.int .i64 2)) w fun v17 w =>
  condK v17
  (joinL (fun J2 =>
  kV P (binV .add 3 (.tmp 20) (.const (.int .i64 1)) (s0.getD 0 undef) (.int .i64 1)) w fun v21 w =>
  kV P (convert 3 23 v21) w fun v22 w =>
  kV P (Instr.build 32 #[(0, (.bool true)), (12, v22)]) w fun v23 w =>
  kV P (Instr.alloc 32 true (.tuple #[])) w fun v7 w =>
  kU P (Instr.storeAt 32 v7 v23) w fun _ w =>
  kV P (convert 3 23 (s0.getD 0 undef)) w fun v26 w =>
  kV P (binV .mul 23 (.tmp 26) (.const (.int .u64 4096)) v26 (.int .u64 4096)) w fun v27 w =>
  kV P (Instr.loadAt 32 v7) w fun v28 w =>
  kN P (callN (.func (.func 16) #[] #[]) #[v28]) w fun v29 w =>
  kN P (callN (.func (.func 15) #[] #[]) #[v10, v27, (.int .i64 8), v29]) w fun v30 w =>
  drewK (fun w =>
  pV P (convert 3 23 (s0.getD 0 undef)) fun v34 =>
  pV P (binV .mul 23 (.tmp 34) (.const (.int .u64 4096)) v34 (.int .u64 4096)) fun v35 =>
  (kV P (Instr.loadAt 28 v4) w fun v32 w =>
  kV P (Instr.loadAt 32 v7) w fun v36 w =>
  kN P (callN (.func (.func 36) #[] #[]) #[v36]) w fun v37 w =>
  kN P (callN (.func (.func 35) #[] #[]) #[v32, v35, (.int .i64 8), v37]) w fun v38 w =>
  pV P (Instr.extract v38 0) fun v39 =>
  pV P (Instr.extract v38 1) fun v40 =>
  kU P (Instr.storeAt 28 v4 v39) w fun _ w =>
  J2 [] w) ∧
  (kV P (Instr.loadAt 32 v7) w fun v36_1 w =>
  (kV P (Instr.loadAt 28 v4) w fun v32_1 w =>
  kN P (callN (.func (.func 36) #[] #[]) #[v36_1]) w fun v37_1 w =>
  kN P (callN (.func (.func 35) #[] #[]) #[v32_1, v35, (.int .i64 8), v37_1]) w fun v38_1 w =>
  pV P (Instr.extract v38_1 0) fun v39_1 =>
  pV P (Instr.extract v38_1 1) fun v40_1 =>
  kU P (Instr.storeAt 28 v4 v39_1) w fun _ w =>
  J2 [] w) ∧
  (kN P (callN (.func (.func 36) #[] #[]) #[v36_1]) w fun v37_2 w =>
  kV P (Instr.loadAt 28 v4) w fun v32_2 w =>
  kN P (callN (.func (.func 35) #[] #[]) #[v32_2, v35, (.int .i64 8), v37_2]) w fun v38_2 w =>
  pV P (Instr.extract v38_2 0) fun v39_2 =>
  pV P (Instr.extract v38_2 1) fun v40_2 =>
  kU P (Instr.storeAt 28 v4 v39_2) w fun _ w =>
  J2 [] w))) w) fun s2 w => ∀ _ : Nat → Value,
  kV P (binV .add 3 (.tmp 18) (.const (.int .i64 1)) (s0.getD 0 undef) (.int .i64 1)) w fun v19 w =>
  R0 [v19] w)
  (drewK (fun w =>
  sV P (Instr.loadAt 28 v4) w fun v42 =>
  kU P (Instr.storeAt 28 v1 v42) w fun _ w =>
  retV P 28 v1 w fun r4 =>
  K (.tuple #[v10, r4]) w) w)) [(.int .i64 0)] w
theorem F27_eq (P : Program) (w : World) (K : Value → World → Prop) : funE P ⟨[(9, 3), (8, 999)], [(4, [6])], [(5, [])]⟩ Try.f27 [] w K = F27 P  w K := by kernel_rfl
theorem F27_ok (w : World) (K : Value → World → Prop) (h : F27 Try.prog  w K) : callsK Try.prog 27 #[] w K := calls_of_eq mixedU Try.func27 (F27_eq _  w K) h

/-- (*mintmark/mmu.Unit).Translate -/
def F28 (P : Program) (t0 t1 t2 t3 t4 : Value) (w : World) (K : Value → World → Prop) : Prop :=
  kV P (Instr.alloc 76 true (.tuple #[])) w fun v10 w =>
  kV P (binV .eql 141 (.tmp 19) (.const (.pointer none)) t0 (.pointer none)) w fun v20 w =>
  joinK (fun J0 : Value → World → Prop => gdK (yb v20) false (fun k => k t2 w) w fun v22 w =>
  gdK (yb v20) false (fun k => kN P (callN (.func (.func 48) #[] #[]) #[v22]) w k) w fun v23 w =>
  gdK (yb v20) false (fun k => kV P (Op.unary .not v23) w k) w fun v24 w =>
  kN P (pickN v20 (.bool true) v24) w fun v25_1 w =>
  J0 v25_1 w) fun v25 w =>
  condK v25
  (kV P (Instr.build 76 #[]) w fun v26 w =>
  kU P (Instr.storeAt 76 v10 v26) w fun _ w =>
  retV P 76 v10 w fun r1 =>
  K (.tuple #[r1, (.int .i64 1)]) w)
  (joinL (fun J2 =>
  joinL (fun J10 =>
  drewK (fun w =>
  pN P (nilN t0) fun v29 =>
  pV P (Instr.fieldAt 74 v29 0) fun v30 =>
  pN P (nilN t0) fun v32 =>
  pV P (Instr.fieldAt 74 v32 2) fun v33 =>
  (kV P (Instr.loadAt 23 v33) w fun v34 w =>
  (kN P (callN (.func (.func 69) #[] #[]) #[t2]) w fun v36 w =>
  (kN P (callN (.func (.func 68) #[] #[]) #[v30, v34, v36]) w fun v37 w =>
  pV P (Instr.extract v37 0) fun v38 =>
  pV P (Instr.extract v37 1) fun v39 =>
  kV P (Instr.alloc 66 true (.tuple #[])) w fun v12 w =>
  kU P (Instr.storeAt 66 v12 v38) w fun _ w =>
  J10 [v12, v39] w) ∧
  (kV P (Instr.alloc 66 true (.tuple #[])) w fun v12_1 w =>
  kN P (callN (.func (.func 68) #[] #[]) #[v30, v34, v36]) w fun v37_1 w =>
  pV P (Instr.extract v37_1 0) fun v38_1 =>
  pV P (Instr.extract v37_1 1) fun v39_1 =>
  kU P (Instr.storeAt 66 v12_1 v38_1) w fun _ w =>
  J10 [v12_1, v39_1] w)) ∧
  (kV P (Instr.alloc 66 true (.tuple #[])) w fun v12_2 w =>
  kN P (callN (.func (.func 69) #[] #[]) #[t2]) w fun v36_1 w =>
  kN P (callN (.func (.func 68) #[] #[]) #[v30, v34, v36_1]) w fun v37_2 w =>
  pV P (Instr.extract v37_2 0) fun v38_2 =>
  pV P (Instr.extract v37_2 1) fun v39_2 =>
  kU P (Instr.storeAt 66 v12_2 v38_2) w fun _ w =>
  J10 [v12_2, v39_2] w)) ∧
  (kN P (callN (.func (.func 69) #[] #[]) #[t2]) w fun v36_2 w =>
  (kV P (Instr.loadAt 23 v33) w fun v34_1 w =>
  (kN P (callN (.func (.func 68) #[] #[]) #[v30, v34_1, v36_2]) w fun v37_3 w =>
  pV P (Instr.extract v37_3 0) fun v38_3 =>
  pV P (Instr.extract v37_3 1) fun v39_3 =>
  kV P (Instr.alloc 66 true (.tuple #[])) w fun v12_3 w =>
  kU P (Instr.storeAt 66 v12_3 v38_3) w fun _ w =>
  J10 [v12_3, v39_3] w) ∧
  (kV P (Instr.alloc 66 true (.tuple #[])) w fun v12_4 w =>
  kN P (callN (.func (.func 68) #[] #[]) #[v30, v34_1, v36_2]) w fun v37_4 w =>
  pV P (Instr.extract v37_4 0) fun v38_4 =>
  pV P (Instr.extract v37_4 1) fun v39_4 =>
  kU P (Instr.storeAt 66 v12_4 v38_4) w fun _ w =>
  J10 [v12_4, v39_4] w)) ∧
  (kV P (Instr.alloc 66 true (.tuple #[])) w fun v12_5 w =>
  kV P (Instr.loadAt 23 v33) w fun v34_2 w =>
  kN P (callN (.func (.func 68) #[] #[]) #[v30, v34_2, v36_2]) w fun v37_5 w =>
  pV P (Instr.extract v37_5 0) fun v38_5 =>
  pV P (Instr.extract v37_5 1) fun v39_5 =>
  kU P (Instr.storeAt 66 v12_5 v38_5) w fun _ w =>
  J10 [v12_5, v39_5] w)) ∧
  (kV P (Instr.alloc 66 true (.tuple #[])) w fun v12_6 w =>
  (kV P (Instr.loadAt 23 v33) w fun v34_3 w =>
  kN P (callN (.func (.func 69) #[] #[]) #[t2]) w fun v36_3 w =>
  kN P (callN (.func (.func 68) #[] #[]) #[v30, v34_3, v36_3]) w fun v37_6 w =>
  pV P (Instr.extract v37_6 0) fun v38_6 =>
  pV P (Instr.extract v37_6 1) fun v39_6 =>
  kU P (Instr.storeAt 66 v12_6 v38_6) w fun _ w =>
  J10 [v12_6, v39_6] w) ∧
  (kN P (callN (.func (.func 69) #[] #[]) #[t2]) w fun v36_4 w =>
  kV P (Instr.loadAt 23 v33) w fun v34_4 w =>
  kN P (callN (.func (.func 68) #[] #[]) #[v30, v34_4, v36_4]) w fun v37_7 w =>
  pV P (Instr.extract v37_7 0) fun v38_7 =>
  pV P (Instr.extract v37_7 1) fun v39_7 =>
  kU P (Instr.storeAt 66 v12_6 v38_7) w fun _ w =>
  J10 [v12_6, v39_7] w))) w) fun s10 w => ∀ _ : Nat → Value,
  condK (s10.getD 1 undef)
  (kV P (Instr.fieldAt 66 (s10.getD 0 undef) 2) w fun v41 w =>
  kV P (Instr.fieldAt 34 v41 0) w fun v42 w =>
  kV P (Instr.loadAt 32 v42) w fun v43 w =>
  kV P (Instr.alloc 32 true (.tuple #[])) w fun v14 w =>
  kU P (Instr.storeAt 32 v14 v43) w fun _ w =>
  drewK (fun w =>
  sV P (Instr.loadAt 32 v14) w fun v44 =>
  sN P (nilN t0) w fun v48 =>
  sV P (Instr.fieldAt 74 v48 3) w fun v49 =>
  sV P (Instr.loadAt 4 v49) w fun v50 =>
  kN P (callN (.func (.func 21) #[] #[]) #[v44, t3, t4, v50]) w fun v51 w =>
  kV P (binV .neq 3 (.tmp 52) (.const (.int .i64 0)) v51 (.int .i64 0)) w fun v53 w =>
  condK v53
  (kV P (Instr.build 76 #[]) w fun v54 w =>
  kU P (Instr.storeAt 76 v10 v54) w fun _ w =>
  retV P 76 v10 w fun r12 =>
  K (.tuple #[r12, v51]) w)
  (joinL (fun J13 =>
  drewK (fun w =>
  (kV P (Instr.loadAt 32 v14) w fun v56 w =>
  (kN P (callN (.func (.func 23) #[] #[]) #[v56, t3, t4]) w fun v59 w =>
  kV P (Instr.loadAt 32 v14) w fun v60 w =>
  pV P (binV .eql 32 (.tmp 59) (.tmp 60) v59 v60) fun v61 =>
  J13 [v61] w) ∧
  (kV P (Instr.loadAt 32 v14) w fun v60_1 w =>
  kN P (callN (.func (.func 23) #[] #[]) #[v56, t3, t4]) w fun v59_1 w =>
  pV P (binV .eql 32 (.tmp 59) (.tmp 60) v59_1 v60_1) fun v61_1 =>
  J13 [v61_1] w)) ∧
  (kV P (Instr.loadAt 32 v14) w fun v60_2 w =>
  kV P (Instr.loadAt 32 v14) w fun v56_1 w =>
  kN P (callN (.func (.func 23) #[] #[]) #[v56_1, t3, t4]) w fun v59_2 w =>
  pV P (binV .eql 32 (.tmp 59) (.tmp 60) v59_2 v60_2) fun v61_2 =>
  J13 [v61_2] w)) w) fun s13 w => ∀ _ : Nat → Value,
  condK (s13.getD 0 undef)
  (kV P (Instr.loadAt 32 v14) w fun v62 w =>
  kN P (callN (.func (.func 70) #[] #[]) #[v62, t2, t3]) w fun v65 w =>
  kU P (Instr.storeAt 76 v10 v65) w fun _ w =>
  retV P 76 v10 w fun r15 =>
  K (.tuple #[r15, (.int .i64 0)]) w)
  (J2 [] w))) w)
  (J2 [] w)) fun s2 w => ∀ _ : Nat → Value,
  kN P (callN (.func (.func 71) #[] #[]) #[t0, t1, t2, t3, t4]) w fun v72 w =>
  kV P (Instr.extract v72 0) w fun v73 w =>
  kV P (Instr.extract v72 1) w fun v74 w =>
  kV P (Instr.extract v72 2) w fun v75 w =>
  kV P (Instr.alloc 34 true (.tuple #[])) w fun v16 w =>
  kU P (Instr.storeAt 34 v16 v73) w fun _ w =>
  joinL (fun J4 =>
  kV P (Op.unary .not v75) w fun v77 w =>
  condK v77
  (drewK (fun w =>
  pN P (nilN t0) fun v79 =>
  pV P (Instr.fieldAt 74 v79 0) fun v80 =>
  pN P (nilN t0) fun v82 =>
  pV P (Instr.fieldAt 74 v82 2) fun v83 =>
  (kV P (Instr.loadAt 23 v83) w fun v84 w =>
  kN P (callN (.func (.func 69) #[] #[]) #[t2]) w fun v86 w =>
  kN P (callN (.func (.func 37) #[] #[]) #[v80, v84, v86]) w fun v87 w =>
  J4 [] w) ∧
  (kN P (callN (.func (.func 69) #[] #[]) #[t2]) w fun v86_1 w =>
  kV P (Instr.loadAt 23 v83) w fun v84_1 w =>
  kN P (callN (.func (.func 37) #[] #[]) #[v80, v84_1, v86_1]) w fun v87_1 w =>
  J4 [] w)) w)
  (J4 [] w)) fun s4 w => ∀ _ : Nat → Value,
  kV P (binV .neq 3 (.tmp 88) (.const (.int .i64 0)) v74 (.int .i64 0)) w fun v89 w =>
  condK v89
  (kV P (Instr.build 76 #[]) w fun v90 w =>
  kU P (Instr.storeAt 76 v10 v90) w fun _ w =>
  retV P 76 v10 w fun r6 =>
  K (.tuple #[r6, v74]) w)
  (kV P (Instr.loadAt 34 v16) w fun v93 w =>
  kN P (callN (.func (.func 26) #[] #[]) #[t1, v93, t3, t4]) w fun v96 w =>
  kU P (Instr.storeAt 34 v16 v96) w fun _ w =>
  joinL (fun J7 =>
  drewK (fun w =>
  pN P (nilN t0) fun v98 =>
  pV P (Instr.fieldAt 74 v98 0) fun v99 =>
  pN P (nilN t0) fun v101 =>
  pV P (Instr.fieldAt 74 v101 2) fun v102 =>
  (kV P (Instr.loadAt 23 v102) w fun v103 w =>
  (kN P (callN (.func (.func 69) #[] #[]) #[t2]) w fun v105 w =>
  kV P (Instr.loadAt 34 v16) w fun v106 w =>
  pV P (Instr.build 66 #[(0, v103), (1, v105), (2, v106)]) fun v107 =>
  kN P (callN (.func (.func 72) #[] #[]) #[v99, v107]) w fun v108 w =>
  J7 [] w) ∧
  (kV P (Instr.loadAt 34 v16) w fun v106_1 w =>
  kN P (callN (.func (.func 69) #[] #[]) #[t2]) w fun v105_1 w =>
  pV P (Instr.build 66 #[(0, v103), (1, v105_1), (2, v106_1)]) fun v107_1 =>
  kN P (callN (.func (.func 72) #[] #[]) #[v99, v107_1]) w fun v108_1 w =>
  J7 [] w)) ∧
  (kN P (callN (.func (.func 69) #[] #[]) #[t2]) w fun v105_2 w =>
  (kV P (Instr.loadAt 23 v102) w fun v103_1 w =>
  kV P (Instr.loadAt 34 v16) w fun v106_2 w =>
  pV P (Instr.build 66 #[(0, v103_1), (1, v105_2), (2, v106_2)]) fun v107_2 =>
  kN P (callN (.func (.func 72) #[] #[]) #[v99, v107_2]) w fun v108_2 w =>
  J7 [] w) ∧
  (kV P (Instr.loadAt 34 v16) w fun v106_3 w =>
  kV P (Instr.loadAt 23 v102) w fun v103_2 w =>
  pV P (Instr.build 66 #[(0, v103_2), (1, v105_2), (2, v106_3)]) fun v107_3 =>
  kN P (callN (.func (.func 72) #[] #[]) #[v99, v107_3]) w fun v108_3 w =>
  J7 [] w)) ∧
  (kV P (Instr.loadAt 34 v16) w fun v106_4 w =>
  (kV P (Instr.loadAt 23 v102) w fun v103_3 w =>
  kN P (callN (.func (.func 69) #[] #[]) #[t2]) w fun v105_3 w =>
  pV P (Instr.build 66 #[(0, v103_3), (1, v105_3), (2, v106_4)]) fun v107_4 =>
  kN P (callN (.func (.func 72) #[] #[]) #[v99, v107_4]) w fun v108_4 w =>
  J7 [] w) ∧
  (kN P (callN (.func (.func 69) #[] #[]) #[t2]) w fun v105_4 w =>
  kV P (Instr.loadAt 23 v102) w fun v103_4 w =>
  pV P (Instr.build 66 #[(0, v103_4), (1, v105_4), (2, v106_4)]) fun v107_5 =>
  kN P (callN (.func (.func 72) #[] #[]) #[v99, v107_5]) w fun v108_5 w =>
  J7 [] w))) w) fun s7 w => ∀ _ : Nat → Value,
  kV P (Instr.fieldAt 34 v16 0) w fun v109 w =>
  kV P (Instr.loadAt 32 v109) w fun v110 w =>
  kN P (callN (.func (.func 70) #[] #[]) #[v110, t2, t3]) w fun v113 w =>
  kU P (Instr.storeAt 76 v10 v113) w fun _ w =>
  retV P 76 v10 w fun r9 =>
  K (.tuple #[r9, (.int .i64 0)]) w))
theorem F28_eq (P : Program) (t0 t1 t2 t3 t4 : Value) (w : World) (K : Value → World → Prop) : funE P ⟨[(3, 999), (9, 999), (6, 7), (13, 999), (17, 999)], [], [(11, []), (4, [12, 13]), (10, [61]), (14, []), (18, [])]⟩ Try.f28 [t0, t1, t2, t3, t4] w K = F28 P t0 t1 t2 t3 t4 w K := by kernel_rfl
theorem F28_ok (t0 t1 t2 t3 t4 : Value) (w : World) (K : Value → World → Prop) (h : F28 Try.prog t0 t1 t2 t3 t4 w K) : callsK Try.prog 28 #[t0, t1, t2, t3, t4] w K := calls_of_eq mixedU Try.func28 (F28_eq _ t0 t1 t2 t3 t4 w K) h

/-- mintmark/mintmarklaw12.one -/
def F30 (P : Program) (w : World) (K : Value → World → Prop) : Prop :=
  kN P (callN (.func (.func 27) #[] #[]) #[]) w fun v11 w =>
  kV P (Instr.extract v11 0) w fun v12 w =>
  kV P (Instr.extract v11 1) w fun v13 w =>
  kV P (Instr.alloc 28 true (.tuple #[])) w fun v2 w =>
  kU P (Instr.storeAt 28 v2 v13) w fun _ w =>
  kV P (Instr.build 32 #[(0, (.bool true)), (1, (.bool true)), (4, (.bool true)), (12, (.int .u64 5))]) w fun v15 w =>
  kN P (callN (.func (.func 16) #[] #[]) #[v15]) w fun v16 w =>
  kN P (callN (.func (.func 15) #[] #[]) #[v12, (.int .u64 8192), (.int .i64 8), v16]) w fun v17 w =>
  kV P (Instr.build 74 #[(2, (.int .u64 3))]) w fun v18 w =>
  kV P (Instr.alloc 74 true (.tuple #[])) w fun v3 w =>
  kU P (Instr.storeAt 74 v3 v18) w fun _ w =>
  kN P (callN (.func (.func 28) #[] #[]) #[v3, v12, (.int .u64 4), (.int .i64 1), (.bool false)]) w fun v21 w =>
  kV P (Instr.extract v21 0) w fun v22 w =>
  kV P (Instr.extract v21 1) w fun v23 w =>
  kV P (Instr.alloc 76 true (.tuple #[])) w fun v4 w =>
  kU P (Instr.storeAt 76 v4 v22) w fun _ w =>
  kN P (callN (.func (.func 15) #[] #[]) #[v12, (.int .u64 8192), (.int .i64 8), (.int .u64 0)]) w fun v25 w =>
  kN P (callN (.func (.func 28) #[] #[]) #[v3, v12, (.int .u64 5), (.int .i64 1), (.bool false)]) w fun v28 w =>
  kV P (Instr.extract v28 0) w fun v29 w =>
  kV P (Instr.extract v28 1) w fun v30 w =>
  kV P (Instr.alloc 76 true (.tuple #[])) w fun v6 w =>
  kU P (Instr.storeAt 76 v6 v29) w fun _ w =>
  kN P (callN (.func (.func 33) #[] #[]) #[v3, v12, (.int .u64 5), (.int .i64 1), (.bool false)]) w fun v33 w =>
  kV P (Instr.extract v33 0) w fun v34 w =>
  kV P (Instr.extract v33 1) w fun v35 w =>
  kV P (Instr.alloc 76 true (.tuple #[])) w fun v8 w =>
  kU P (Instr.storeAt 76 v8 v34) w fun _ w =>
  kV P (Instr.fieldAt 76 v4 0) w fun v36 w =>
  kV P (Instr.loadAt 23 v36) w fun v37 w =>
  kV P (binV .eql 23 (.tmp 37) (.const (.int .u64 20484)) v37 (.int .u64 20484)) w fun v38 w =>
  joinK (fun J0 : Value → World → Prop => gdK (yb v38) true (fun k => k v23 w) w fun v40 w =>
  gdK (yb v38) true (fun k => kV P (binV .eql 3 (.tmp 40) (.const (.int .i64 0)) v40 (.int .i64 0)) w k) w fun v41 w =>
  kN P (pickN v38 v41 (.bool false)) w fun v42_1 w =>
  J0 v42_1 w) fun v42 w =>
  joinK (fun J1 : Value → World → Prop => gdK (yb v42) true (fun k => kV P (Instr.fieldAt 76 v6 0) w k) w fun v44 w =>
  gdK (yb v42) true (fun k => kV P (Instr.loadAt 23 v44) w k) w fun v45 w =>
  gdK (yb v42) true (fun k => kV P (binV .eql 23 (.tmp 45) (.const (.int .u64 20485)) v45 (.int .u64 20485)) w k) w fun v46 w =>
  kN P (pickN v42 v46 (.bool false)) w fun v47_1 w =>
  J1 v47_1 w) fun v47 w =>
  joinK (fun J2 : Value → World → Prop => gdK (yb v47) true (fun k => k v30 w) w fun v49 w =>
  gdK (yb v47) true (fun k => kV P (binV .eql 3 (.tmp 49) (.const (.int .i64 0)) v49 (.int .i64 0)) w k) w fun v50 w =>
  kN P (pickN v47 v50 (.bool false)) w fun v51_1 w =>
  J2 v51_1 w) fun v51 w =>
  joinK (fun J3 : Value → World → Prop => gdK (yb v51) true (fun k => k v35 w) w fun v53 w =>
  gdK (yb v51) true (fun k => kV P (binV .eql 3 (.tmp 53) (.const (.int .i64 1)) v53 (.int .i64 1)) w k) w fun v54 w =>
  kN P (pickN v51 v54 (.bool false)) w fun v55_1 w =>
  J3 v55_1 w) fun v55 w =>
  K v55 w
theorem F30_eq (P : Program) (w : World) (K : Value → World → Prop) : funE P ⟨[], [], []⟩ Try.f30 [] w K = F30 P  w K := by kernel_rfl
theorem F30_ok (w : World) (K : Value → World → Prop) (h : F30 Try.prog  w K) : callsK Try.prog 30 #[] w K := calls_of_eq mixedU Try.func30 (F30_eq _  w K) h

/-- (*mintmark/tlb.Tlb).Flush -/
def F31 (P : Program) (t0 t1 : Value) (w : World) (K : Value → World → Prop) : Prop :=
  kV P (Instr.box 23 t1) w fun v3 w =>
  kN P (callN (.func (.func 74) #[] #[]) #[t0, (.func (.func 75) #[] #[v3])]) w fun v6 w =>
  K (.tuple #[]) w
theorem F31_eq (P : Program) (t0 t1 : Value) (w : World) (K : Value → World → Prop) : funE P ⟨[], [], []⟩ Try.f31 [t0, t1] w K = F31 P t0 t1 w K := by kernel_rfl
theorem F31_ok (t0 t1 : Value) (w : World) (K : Value → World → Prop) (h : F31 Try.prog t0 t1 w K) : callsK Try.prog 31 #[t0, t1] w K := calls_of_eq mixedU Try.func31 (F31_eq _ t0 t1 w K) h

/-- (mintmark/mintmarkref12.Unit).Translate -/
def F32 (P : Program) (t0 t1 t2 t3 t4 : Value) (w : World) (K : Value → World → Prop) : Prop :=
  kV P (Instr.box 89 t0) w fun v5 w =>
  kV P (Instr.box 28 t1) w fun v6 w =>
  kV P (Instr.alloc 89 true (.tuple #[])) w fun v10 w =>
  kV P (Instr.alloc 28 true (.tuple #[])) w fun v11 w =>
  kV P (Instr.alloc 92 true (.tuple #[])) w fun v12 w =>
  kV P (binV .geq 23 (.tmp 22) (.const (.int .u64 274877906944)) t2 (.int .u64 274877906944)) w fun v23 w =>
  condK v23
  (drewK (fun w =>
  pV P (Instr.build 92 #[]) fun v26 =>
  (kV P (Instr.loadAt 89 v5) w fun v24 w =>
  (kV P (Instr.loadAt 28 v6) w fun v25 w =>
  kU P (Instr.storeAt 89 v10 v24) w fun _ w =>
  kU P (Instr.storeAt 28 v11 v25) w fun _ w =>
  kU P (Instr.storeAt 92 v12 v26) w fun _ w =>
  retV P 89 v10 w fun r0 =>
  retV P 28 v11 w fun r1 =>
  retV P 92 v12 w fun r2 =>
  K (.tuple #[r0, r1, r2, (.int .i64 1)]) w) ∧
  (kU P (Instr.storeAt 89 v10 v24) w fun _ w =>
  kV P (Instr.loadAt 28 v6) w fun v25_1 w =>
  kU P (Instr.storeAt 28 v11 v25_1) w fun _ w =>
  kU P (Instr.storeAt 92 v12 v26) w fun _ w =>
  retV P 89 v10 w fun r3 =>
  retV P 28 v11 w fun r4 =>
  retV P 92 v12 w fun r5 =>
  K (.tuple #[r3, r4, r5, (.int .i64 1)]) w)) ∧
  (kV P (Instr.loadAt 28 v6) w fun v25_2 w =>
  kV P (Instr.loadAt 89 v5) w fun v24_1 w =>
  kU P (Instr.storeAt 89 v10 v24_1) w fun _ w =>
  kU P (Instr.storeAt 28 v11 v25_2) w fun _ w =>
  kU P (Instr.storeAt 92 v12 v26) w fun _ w =>
  retV P 89 v10 w fun r6 =>
  retV P 28 v11 w fun r7 =>
  retV P 92 v12 w fun r8 =>
  K (.tuple #[r6, r7, r8, (.int .i64 1)]) w)) w)
  (kV P (Instr.fieldAt 89 v5 0) w fun v28 w =>
  kV P (Instr.loadAt 86 v28) w fun v29 w =>
  kV P (Instr.fieldAt 89 v5 3) w fun v30 w =>
  kV P (Instr.loadAt 23 v30) w fun v31 w =>
  kV P (binV .quo 23 (.tmp 32) (.const (.int .u64 4096)) t2 (.int .u64 4096)) w fun v33 w =>
  kN P (callN (.func (.func 76) #[] #[]) #[v29, v31, v33]) w fun v34 w =>
  kV P (Instr.extract v34 0) w fun v35 w =>
  kV P (Instr.extract v34 1) w fun v36 w =>
  kV P (Instr.alloc 153 true (.tuple #[])) w fun v14 w =>
  kU P (Instr.storeAt 153 v14 v35) w fun _ w =>
  joinL (fun J9 =>
  condK v36
  (kV P (Instr.fieldAt 89 v5 1) w fun v38 w =>
  kV P (Instr.loadAt 87 v38) w fun v39 w =>
  kV P (Instr.fieldAt 153 v14 2) w fun v40 w =>
  kV P (Instr.loadAt 23 v40) w fun v41 w =>
  kV P (Instr.indexAt 87 v39 v41) w fun v42 w =>
  kV P (Instr.loadAt 37 v42) w fun v43 w =>
  kV P (Instr.alloc 37 true (.tuple #[])) w fun v16 w =>
  kU P (Instr.storeAt 37 v16 v43) w fun _ w =>
  kV P (Instr.loadAt 37 v16) w fun v44 w =>
  kV P (Instr.fieldAt 89 v5 4) w fun v47 w =>
  kV P (Instr.loadAt 4 v47) w fun v48 w =>
  kN P (callN (.func (.func 22) #[] #[]) #[v44, t3, t4, v48]) w fun v49 w =>
  kV P (binV .neq 3 (.tmp 50) (.const (.int .i64 0)) v49 (.int .i64 0)) w fun v51 w =>
  condK v51
  (drewK (fun w =>
  pV P (Instr.build 92 #[]) fun v54 =>
  (kV P (Instr.loadAt 89 v5) w fun v52 w =>
  (kV P (Instr.loadAt 28 v6) w fun v53 w =>
  kU P (Instr.storeAt 89 v10 v52) w fun _ w =>
  kU P (Instr.storeAt 28 v11 v53) w fun _ w =>
  kU P (Instr.storeAt 92 v12 v54) w fun _ w =>
  retV P 89 v10 w fun r78 =>
  retV P 28 v11 w fun r79 =>
  retV P 92 v12 w fun r80 =>
  K (.tuple #[r78, r79, r80, v49]) w) ∧
  (kU P (Instr.storeAt 89 v10 v52) w fun _ w =>
  kV P (Instr.loadAt 28 v6) w fun v53_1 w =>
  kU P (Instr.storeAt 28 v11 v53_1) w fun _ w =>
  kU P (Instr.storeAt 92 v12 v54) w fun _ w =>
  retV P 89 v10 w fun r81 =>
  retV P 28 v11 w fun r82 =>
  retV P 92 v12 w fun r83 =>
  K (.tuple #[r81, r82, r83, v49]) w)) ∧
  (kV P (Instr.loadAt 28 v6) w fun v53_2 w =>
  kV P (Instr.loadAt 89 v5) w fun v52_1 w =>
  kU P (Instr.storeAt 89 v10 v52_1) w fun _ w =>
  kU P (Instr.storeAt 28 v11 v53_2) w fun _ w =>
  kU P (Instr.storeAt 92 v12 v54) w fun _ w =>
  retV P 89 v10 w fun r84 =>
  retV P 28 v11 w fun r85 =>
  retV P 92 v12 w fun r86 =>
  K (.tuple #[r84, r85, r86, v49]) w)) w)
  (joinL (fun J87 =>
  drewK (fun w =>
  (kV P (Instr.loadAt 37 v16) w fun v56 w =>
  (kN P (callN (.func (.func 24) #[] #[]) #[v56, t3, t4]) w fun v59 w =>
  kV P (Instr.loadAt 37 v16) w fun v60 w =>
  pV P (binV .eql 37 (.tmp 59) (.tmp 60) v59 v60) fun v61 =>
  J87 [v61] w) ∧
  (kV P (Instr.loadAt 37 v16) w fun v60_1 w =>
  kN P (callN (.func (.func 24) #[] #[]) #[v56, t3, t4]) w fun v59_1 w =>
  pV P (binV .eql 37 (.tmp 59) (.tmp 60) v59_1 v60_1) fun v61_1 =>
  J87 [v61_1] w)) ∧
  (kV P (Instr.loadAt 37 v16) w fun v60_2 w =>
  kV P (Instr.loadAt 37 v16) w fun v56_1 w =>
  kN P (callN (.func (.func 24) #[] #[]) #[v56_1, t3, t4]) w fun v59_2 w =>
  pV P (binV .eql 37 (.tmp 59) (.tmp 60) v59_2 v60_2) fun v61_2 =>
  J87 [v61_2] w)) w) fun s87 w => ∀ _ : Nat → Value,
  condK (s87.getD 0 undef)
  (drewK (fun w =>
  (kV P (Instr.loadAt 89 v5) w fun v62 w =>
  (kV P (Instr.loadAt 28 v6) w fun v63 w =>
  kV P (Instr.loadAt 37 v16) w fun v64 w =>
  kN P (callN (.func (.func 77) #[] #[]) #[v64, t2, t3]) w fun v67 w =>
  kU P (Instr.storeAt 89 v10 v62) w fun _ w =>
  kU P (Instr.storeAt 28 v11 v63) w fun _ w =>
  kU P (Instr.storeAt 92 v12 v67) w fun _ w =>
  retV P 89 v10 w fun r89 =>
  retV P 28 v11 w fun r90 =>
  retV P 92 v12 w fun r91 =>
  K (.tuple #[r89, r90, r91, (.int .i64 0)]) w) ∧
  (kV P (Instr.loadAt 37 v16) w fun v64_1 w =>
  (kV P (Instr.loadAt 28 v6) w fun v63_1 w =>
  kN P (callN (.func (.func 77) #[] #[]) #[v64_1, t2, t3]) w fun v67_1 w =>
  kU P (Instr.storeAt 89 v10 v62) w fun _ w =>
  kU P (Instr.storeAt 28 v11 v63_1) w fun _ w =>
  kU P (Instr.storeAt 92 v12 v67_1) w fun _ w =>
  retV P 89 v10 w fun r92 =>
  retV P 28 v11 w fun r93 =>
  retV P 92 v12 w fun r94 =>
  K (.tuple #[r92, r93, r94, (.int .i64 0)]) w) ∧
  (kN P (callN (.func (.func 77) #[] #[]) #[v64_1, t2, t3]) w fun v67_2 w =>
  (kV P (Instr.loadAt 28 v6) w fun v63_2 w =>
  kU P (Instr.storeAt 89 v10 v62) w fun _ w =>
  kU P (Instr.storeAt 28 v11 v63_2) w fun _ w =>
  kU P (Instr.storeAt 92 v12 v67_2) w fun _ w =>
  retV P 89 v10 w fun r95 =>
  retV P 28 v11 w fun r96 =>
  retV P 92 v12 w fun r97 =>
  K (.tuple #[r95, r96, r97, (.int .i64 0)]) w) ∧
  (kU P (Instr.storeAt 89 v10 v62) w fun _ w =>
  kV P (Instr.loadAt 28 v6) w fun v63_3 w =>
  kU P (Instr.storeAt 28 v11 v63_3) w fun _ w =>
  kU P (Instr.storeAt 92 v12 v67_2) w fun _ w =>
  retV P 89 v10 w fun r98 =>
  retV P 28 v11 w fun r99 =>
  retV P 92 v12 w fun r100 =>
  K (.tuple #[r98, r99, r100, (.int .i64 0)]) w)))) ∧
  (kV P (Instr.loadAt 28 v6) w fun v63_4 w =>
  (kV P (Instr.loadAt 89 v5) w fun v62_1 w =>
  kV P (Instr.loadAt 37 v16) w fun v64_2 w =>
  kN P (callN (.func (.func 77) #[] #[]) #[v64_2, t2, t3]) w fun v67_3 w =>
  kU P (Instr.storeAt 89 v10 v62_1) w fun _ w =>
  kU P (Instr.storeAt 28 v11 v63_4) w fun _ w =>
  kU P (Instr.storeAt 92 v12 v67_3) w fun _ w =>
  retV P 89 v10 w fun r101 =>
  retV P 28 v11 w fun r102 =>
  retV P 92 v12 w fun r103 =>
  K (.tuple #[r101, r102, r103, (.int .i64 0)]) w) ∧
  (kV P (Instr.loadAt 37 v16) w fun v64_3 w =>
  (kV P (Instr.loadAt 89 v5) w fun v62_2 w =>
  kN P (callN (.func (.func 77) #[] #[]) #[v64_3, t2, t3]) w fun v67_4 w =>
  kU P (Instr.storeAt 89 v10 v62_2) w fun _ w =>
  kU P (Instr.storeAt 28 v11 v63_4) w fun _ w =>
  kU P (Instr.storeAt 92 v12 v67_4) w fun _ w =>
  retV P 89 v10 w fun r104 =>
  retV P 28 v11 w fun r105 =>
  retV P 92 v12 w fun r106 =>
  K (.tuple #[r104, r105, r106, (.int .i64 0)]) w) ∧
  (kN P (callN (.func (.func 77) #[] #[]) #[v64_3, t2, t3]) w fun v67_5 w =>
  kV P (Instr.loadAt 89 v5) w fun v62_3 w =>
  kU P (Instr.storeAt 89 v10 v62_3) w fun _ w =>
  kU P (Instr.storeAt 28 v11 v63_4) w fun _ w =>
  kU P (Instr.storeAt 92 v12 v67_5) w fun _ w =>
  retV P 89 v10 w fun r107 =>
  retV P 28 v11 w fun r108 =>
  retV P 92 v12 w fun r109 =>
  K (.tuple #[r107, r108, r109, (.int .i64 0)]) w))) ∧
  (kV P (Instr.loadAt 37 v16) w fun v64_4 w =>
  (kV P (Instr.loadAt 89 v5) w fun v62_4 w =>
  (kV P (Instr.loadAt 28 v6) w fun v63_5 w =>
  kN P (callN (.func (.func 77) #[] #[]) #[v64_4, t2, t3]) w fun v67_6 w =>
  kU P (Instr.storeAt 89 v10 v62_4) w fun _ w =>
  kU P (Instr.storeAt 28 v11 v63_5) w fun _ w =>
  kU P (Instr.storeAt 92 v12 v67_6) w fun _ w =>
  retV P 89 v10 w fun r110 =>
  retV P 28 v11 w fun r111 =>
  retV P 92 v12 w fun r112 =>
  K (.tuple #[r110, r111, r112, (.int .i64 0)]) w) ∧
  (kN P (callN (.func (.func 77) #[] #[]) #[v64_4, t2, t3]) w fun v67_7 w =>
  (kV P (Instr.loadAt 28 v6) w fun v63_6 w =>
  kU P (Instr.storeAt 89 v10 v62_4) w fun _ w =>
  kU P (Instr.storeAt 28 v11 v63_6) w fun _ w =>
  kU P (Instr.storeAt 92 v12 v67_7) w fun _ w =>
  retV P 89 v10 w fun r113 =>
  retV P 28 v11 w fun r114 =>
  retV P 92 v12 w fun r115 =>
  K (.tuple #[r113, r114, r115, (.int .i64 0)]) w) ∧
  (kU P (Instr.storeAt 89 v10 v62_4) w fun _ w =>
  kV P (Instr.loadAt 28 v6) w fun v63_7 w =>
  kU P (Instr.storeAt 28 v11 v63_7) w fun _ w =>
  kU P (Instr.storeAt 92 v12 v67_7) w fun _ w =>
  retV P 89 v10 w fun r116 =>
  retV P 28 v11 w fun r117 =>
  retV P 92 v12 w fun r118 =>
  K (.tuple #[r116, r117, r118, (.int .i64 0)]) w))) ∧
  (kV P (Instr.loadAt 28 v6) w fun v63_8 w =>
  (kV P (Instr.loadAt 89 v5) w fun v62_5 w =>
  kN P (callN (.func (.func 77) #[] #[]) #[v64_4, t2, t3]) w fun v67_8 w =>
  kU P (Instr.storeAt 89 v10 v62_5) w fun _ w =>
  kU P (Instr.storeAt 28 v11 v63_8) w fun _ w =>
  kU P (Instr.storeAt 92 v12 v67_8) w fun _ w =>
  retV P 89 v10 w fun r119 =>
  retV P 28 v11 w fun r120 =>
  retV P 92 v12 w fun r121 =>
  K (.tuple #[r119, r120, r121, (.int .i64 0)]) w) ∧
  (kN P (callN (.func (.func 77) #[] #[]) #[v64_4, t2, t3]) w fun v67_9 w =>
  kV P (Instr.loadAt 89 v5) w fun v62_6 w =>
  kU P (Instr.storeAt 89 v10 v62_6) w fun _ w =>
  kU P (Instr.storeAt 28 v11 v63_8) w fun _ w =>
  kU P (Instr.storeAt 92 v12 v67_9) w fun _ w =>
  retV P 89 v10 w fun r122 =>
  retV P 28 v11 w fun r123 =>
  retV P 92 v12 w fun r124 =>
  K (.tuple #[r122, r123, r124, (.int .i64 0)]) w)) ∧
  (kN P (callN (.func (.func 77) #[] #[]) #[v64_4, t2, t3]) w fun v67_10 w =>
  (kV P (Instr.loadAt 89 v5) w fun v62_7 w =>
  (kV P (Instr.loadAt 28 v6) w fun v63_9 w =>
  kU P (Instr.storeAt 89 v10 v62_7) w fun _ w =>
  kU P (Instr.storeAt 28 v11 v63_9) w fun _ w =>
  kU P (Instr.storeAt 92 v12 v67_10) w fun _ w =>
  retV P 89 v10 w fun r125 =>
  retV P 28 v11 w fun r126 =>
  retV P 92 v12 w fun r127 =>
  K (.tuple #[r125, r126, r127, (.int .i64 0)]) w) ∧
  (kU P (Instr.storeAt 89 v10 v62_7) w fun _ w =>
  kV P (Instr.loadAt 28 v6) w fun v63_10 w =>
  kU P (Instr.storeAt 28 v11 v63_10) w fun _ w =>
  kU P (Instr.storeAt 92 v12 v67_10) w fun _ w =>
  retV P 89 v10 w fun r128 =>
  retV P 28 v11 w fun r129 =>
  retV P 92 v12 w fun r130 =>
  K (.tuple #[r128, r129, r130, (.int .i64 0)]) w)) ∧
  (kV P (Instr.loadAt 28 v6) w fun v63_11 w =>
  kV P (Instr.loadAt 89 v5) w fun v62_8 w =>
  kU P (Instr.storeAt 89 v10 v62_8) w fun _ w =>
  kU P (Instr.storeAt 28 v11 v63_11) w fun _ w =>
  kU P (Instr.storeAt 92 v12 v67_10) w fun _ w =>
  retV P 89 v10 w fun r131 =>
  retV P 28 v11 w fun r132 =>
  retV P 92 v12 w fun r133 =>
  K (.tuple #[r131, r132, r133, (.int .i64 0)]) w)))) w)
  (J9 [] w)))
  (J9 [] w)) fun s9 w => ∀ _ : Nat → Value,
  kV P (Instr.loadAt 28 v6) w fun v69 w =>
  kV P (Instr.fieldAt 89 v5 2) w fun v70 w =>
  kV P (Instr.loadAt 23 v70) w fun v71 w =>
  kN P (callN (.func (.func 13) #[] #[]) #[v69, v71, t2]) w fun v73 w =>
  kV P (Instr.extract v73 0) w fun v74 w =>
  kV P (Instr.extract v73 1) w fun v75 w =>
  kV P (Instr.extract v73 2) w fun v76 w =>
  kV P (Instr.alloc 37 true (.tuple #[])) w fun v18 w =>
  kU P (Instr.storeAt 37 v18 v74) w fun _ w =>
  kV P (binV .neq 3 (.tmp 77) (.const (.int .i64 0)) v76 (.int .i64 0)) w fun v78 w =>
  condK v78
  (kV P (Instr.fieldAt 89 v5 0) w fun v79 w =>
  kV P (Instr.loadAt 86 v79) w fun v80 w =>
  kV P (Instr.fieldAt 89 v5 3) w fun v81 w =>
  kV P (Instr.loadAt 23 v81) w fun v82 w =>
  kV P (binV .quo 23 (.tmp 83) (.const (.int .u64 4096)) t2 (.int .u64 4096)) w fun v84 w =>
  kN P (callN (.func (.func 38) #[] #[]) #[v80, v82, v84]) w fun v85 w =>
  kV P (Instr.fieldAt 89 v5 0) w fun v86 w =>
  kU P (Instr.storeAt 86 v86 v85) w fun _ w =>
  drewK (fun w =>
  pV P (Instr.build 92 #[]) fun v89 =>
  (kV P (Instr.loadAt 89 v5) w fun v87 w =>
  (kV P (Instr.loadAt 28 v6) w fun v88 w =>
  kU P (Instr.storeAt 89 v10 v87) w fun _ w =>
  kU P (Instr.storeAt 28 v11 v88) w fun _ w =>
  kU P (Instr.storeAt 92 v12 v89) w fun _ w =>
  retV P 89 v10 w fun r11 =>
  retV P 28 v11 w fun r12 =>
  retV P 92 v12 w fun r13 =>
  K (.tuple #[r11, r12, r13, v76]) w) ∧
  (kU P (Instr.storeAt 89 v10 v87) w fun _ w =>
  kV P (Instr.loadAt 28 v6) w fun v88_1 w =>
  kU P (Instr.storeAt 28 v11 v88_1) w fun _ w =>
  kU P (Instr.storeAt 92 v12 v89) w fun _ w =>
  retV P 89 v10 w fun r14 =>
  retV P 28 v11 w fun r15 =>
  retV P 92 v12 w fun r16 =>
  K (.tuple #[r14, r15, r16, v76]) w)) ∧
  (kV P (Instr.loadAt 28 v6) w fun v88_2 w =>
  kV P (Instr.loadAt 89 v5) w fun v87_1 w =>
  kU P (Instr.storeAt 89 v10 v87_1) w fun _ w =>
  kU P (Instr.storeAt 28 v11 v88_2) w fun _ w =>
  kU P (Instr.storeAt 92 v12 v89) w fun _ w =>
  retV P 89 v10 w fun r17 =>
  retV P 28 v11 w fun r18 =>
  retV P 92 v12 w fun r19 =>
  K (.tuple #[r17, r18, r19, v76]) w)) w)
  (kV P (Instr.loadAt 37 v18) w fun v91 w =>
  kV P (Instr.fieldAt 89 v5 4) w fun v94 w =>
  kV P (Instr.loadAt 4 v94) w fun v95 w =>
  kN P (callN (.func (.func 22) #[] #[]) #[v91, t3, t4, v95]) w fun v96 w =>
  kV P (binV .neq 3 (.tmp 97) (.const (.int .i64 0)) v96 (.int .i64 0)) w fun v98 w =>
  condK v98
  (drewK (fun w =>
  pV P (Instr.build 92 #[]) fun v101 =>
  (kV P (Instr.loadAt 89 v5) w fun v99 w =>
  (kV P (Instr.loadAt 28 v6) w fun v100 w =>
  kU P (Instr.storeAt 89 v10 v99) w fun _ w =>
  kU P (Instr.storeAt 28 v11 v100) w fun _ w =>
  kU P (Instr.storeAt 92 v12 v101) w fun _ w =>
  retV P 89 v10 w fun r20 =>
  retV P 28 v11 w fun r21 =>
  retV P 92 v12 w fun r22 =>
  K (.tuple #[r20, r21, r22, v96]) w) ∧
  (kU P (Instr.storeAt 89 v10 v99) w fun _ w =>
  kV P (Instr.loadAt 28 v6) w fun v100_1 w =>
  kU P (Instr.storeAt 28 v11 v100_1) w fun _ w =>
  kU P (Instr.storeAt 92 v12 v101) w fun _ w =>
  retV P 89 v10 w fun r23 =>
  retV P 28 v11 w fun r24 =>
  retV P 92 v12 w fun r25 =>
  K (.tuple #[r23, r24, r25, v96]) w)) ∧
  (kV P (Instr.loadAt 28 v6) w fun v100_2 w =>
  kV P (Instr.loadAt 89 v5) w fun v99_1 w =>
  kU P (Instr.storeAt 89 v10 v99_1) w fun _ w =>
  kU P (Instr.storeAt 28 v11 v100_2) w fun _ w =>
  kU P (Instr.storeAt 92 v12 v101) w fun _ w =>
  retV P 89 v10 w fun r26 =>
  retV P 28 v11 w fun r27 =>
  retV P 92 v12 w fun r28 =>
  K (.tuple #[r26, r27, r28, v96]) w)) w)
  (kV P (Instr.loadAt 37 v18) w fun v103 w =>
  kN P (callN (.func (.func 24) #[] #[]) #[v103, t3, t4]) w fun v106 w =>
  kV P (Instr.alloc 37 true (.tuple #[])) w fun v21 w =>
  kU P (Instr.storeAt 37 v21 v106) w fun _ w =>
  joinL (fun J29 =>
  kV P (Instr.loadAt 37 v21) w fun v107 w =>
  kV P (Instr.loadAt 37 v18) w fun v108 w =>
  kV P (binV .neq 37 (.tmp 107) (.tmp 108) v107 v108) w fun v109 w =>
  condK v109
  (drewK (fun w =>
  (kV P (Instr.loadAt 28 v6) w fun v111 w =>
  kV P (Instr.loadAt 37 v21) w fun v113 w =>
  kN P (callN (.func (.func 36) #[] #[]) #[v113]) w fun v114 w =>
  kN P (callN (.func (.func 35) #[] #[]) #[v111, v75, (.int .i64 8), v114]) w fun v115 w =>
  pV P (Instr.extract v115 0) fun v116 =>
  pV P (Instr.extract v115 1) fun v117 =>
  kU P (Instr.storeAt 28 v6 v116) w fun _ w =>
  J29 [] w) ∧
  (kV P (Instr.loadAt 37 v21) w fun v113_1 w =>
  (kV P (Instr.loadAt 28 v6) w fun v111_1 w =>
  kN P (callN (.func (.func 36) #[] #[]) #[v113_1]) w fun v114_1 w =>
  kN P (callN (.func (.func 35) #[] #[]) #[v111_1, v75, (.int .i64 8), v114_1]) w fun v115_1 w =>
  pV P (Instr.extract v115_1 0) fun v116_1 =>
  pV P (Instr.extract v115_1 1) fun v117_1 =>
  kU P (Instr.storeAt 28 v6 v116_1) w fun _ w =>
  J29 [] w) ∧
  (kN P (callN (.func (.func 36) #[] #[]) #[v113_1]) w fun v114_2 w =>
  kV P (Instr.loadAt 28 v6) w fun v111_2 w =>
  kN P (callN (.func (.func 35) #[] #[]) #[v111_2, v75, (.int .i64 8), v114_2]) w fun v115_2 w =>
  pV P (Instr.extract v115_2 0) fun v116_2 =>
  pV P (Instr.extract v115_2 1) fun v117_2 =>
  kU P (Instr.storeAt 28 v6 v116_2) w fun _ w =>
  J29 [] w))) w)
  (J29 [] w)) fun s29 w => ∀ _ : Nat → Value,
  joinL (fun J31 =>
  drewK (fun w =>
  pV P (Instr.fieldAt 89 v5 1) fun v119 =>
  (kV P (Instr.buildSlice 87 0 #[]) w fun v118 w =>
  (kV P (Instr.loadAt 87 v119) w fun v120 w =>
  (kV P (Builtin.append_ #[87, 87] 87 #[v118, v120]) w fun v121 w =>
  kV P (Instr.loadAt 37 v21) w fun v122 w =>
  kV P (Instr.buildSlice 87 1 #[(0, v122)]) w fun v123 w =>
  kV P (Builtin.append_ #[87, 87] 87 #[v121, v123]) w fun v124 w =>
  pV P (Instr.fieldAt 89 v5 1) fun v125 =>
  kU P (Instr.storeAt 87 v125 v124) w fun _ w =>
  J31 [] w) ∧
  (kV P (Instr.loadAt 37 v21) w fun v122_1 w =>
  (kV P (Builtin.append_ #[87, 87] 87 #[v118, v120]) w fun v121_1 w =>
  kV P (Instr.buildSlice 87 1 #[(0, v122_1)]) w fun v123_1 w =>
  kV P (Builtin.append_ #[87, 87] 87 #[v121_1, v123_1]) w fun v124_1 w =>
  pV P (Instr.fieldAt 89 v5 1) fun v125_1 =>
  kU P (Instr.storeAt 87 v125_1 v124_1) w fun _ w =>
  J31 [] w) ∧
  (kV P (Instr.buildSlice 87 1 #[(0, v122_1)]) w fun v123_2 w =>
  kV P (Builtin.append_ #[87, 87] 87 #[v118, v120]) w fun v121_2 w =>
  kV P (Builtin.append_ #[87, 87] 87 #[v121_2, v123_2]) w fun v124_2 w =>
  pV P (Instr.fieldAt 89 v5 1) fun v125_2 =>
  kU P (Instr.storeAt 87 v125_2 v124_2) w fun _ w =>
  J31 [] w))) ∧
  (kV P (Instr.loadAt 37 v21) w fun v122_2 w =>
  (kV P (Instr.loadAt 87 v119) w fun v120_1 w =>
  (kV P (Builtin.append_ #[87, 87] 87 #[v118, v120_1]) w fun v121_3 w =>
  kV P (Instr.buildSlice 87 1 #[(0, v122_2)]) w fun v123_3 w =>
  kV P (Builtin.append_ #[87, 87] 87 #[v121_3, v123_3]) w fun v124_3 w =>
  pV P (Instr.fieldAt 89 v5 1) fun v125_3 =>
  kU P (Instr.storeAt 87 v125_3 v124_3) w fun _ w =>
  J31 [] w) ∧
  (kV P (Instr.buildSlice 87 1 #[(0, v122_2)]) w fun v123_4 w =>
  kV P (Builtin.append_ #[87, 87] 87 #[v118, v120_1]) w fun v121_4 w =>
  kV P (Builtin.append_ #[87, 87] 87 #[v121_4, v123_4]) w fun v124_4 w =>
  pV P (Instr.fieldAt 89 v5 1) fun v125_4 =>
  kU P (Instr.storeAt 87 v125_4 v124_4) w fun _ w =>
  J31 [] w)) ∧
  (kV P (Instr.buildSlice 87 1 #[(0, v122_2)]) w fun v123_5 w =>
  kV P (Instr.loadAt 87 v119) w fun v120_2 w =>
  kV P (Builtin.append_ #[87, 87] 87 #[v118, v120_2]) w fun v121_5 w =>
  kV P (Builtin.append_ #[87, 87] 87 #[v121_5, v123_5]) w fun v124_5 w =>
  pV P (Instr.fieldAt 89 v5 1) fun v125_5 =>
  kU P (Instr.storeAt 87 v125_5 v124_5) w fun _ w =>
  J31 [] w))) ∧
  (kV P (Instr.loadAt 87 v119) w fun v120_3 w =>
  (kV P (Instr.buildSlice 87 0 #[]) w fun v118_1 w =>
  (kV P (Builtin.append_ #[87, 87] 87 #[v118_1, v120_3]) w fun v121_6 w =>
  kV P (Instr.loadAt 37 v21) w fun v122_3 w =>
  kV P (Instr.buildSlice 87 1 #[(0, v122_3)]) w fun v123_6 w =>
  kV P (Builtin.append_ #[87, 87] 87 #[v121_6, v123_6]) w fun v124_6 w =>
  pV P (Instr.fieldAt 89 v5 1) fun v125_6 =>
  kU P (Instr.storeAt 87 v125_6 v124_6) w fun _ w =>
  J31 [] w) ∧
  (kV P (Instr.loadAt 37 v21) w fun v122_4 w =>
  (kV P (Builtin.append_ #[87, 87] 87 #[v118_1, v120_3]) w fun v121_7 w =>
  kV P (Instr.buildSlice 87 1 #[(0, v122_4)]) w fun v123_7 w =>
  kV P (Builtin.append_ #[87, 87] 87 #[v121_7, v123_7]) w fun v124_7 w =>
  pV P (Instr.fieldAt 89 v5 1) fun v125_7 =>
  kU P (Instr.storeAt 87 v125_7 v124_7) w fun _ w =>
  J31 [] w) ∧
  (kV P (Instr.buildSlice 87 1 #[(0, v122_4)]) w fun v123_8 w =>
  kV P (Builtin.append_ #[87, 87] 87 #[v118_1, v120_3]) w fun v121_8 w =>
  kV P (Builtin.append_ #[87, 87] 87 #[v121_8, v123_8]) w fun v124_8 w =>
  pV P (Instr.fieldAt 89 v5 1) fun v125_8 =>
  kU P (Instr.storeAt 87 v125_8 v124_8) w fun _ w =>
  J31 [] w))) ∧
  (kV P (Instr.loadAt 37 v21) w fun v122_5 w =>
  (kV P (Instr.buildSlice 87 0 #[]) w fun v118_2 w =>
  (kV P (Builtin.append_ #[87, 87] 87 #[v118_2, v120_3]) w fun v121_9 w =>
  kV P (Instr.buildSlice 87 1 #[(0, v122_5)]) w fun v123_9 w =>
  kV P (Builtin.append_ #[87, 87] 87 #[v121_9, v123_9]) w fun v124_9 w =>
  pV P (Instr.fieldAt 89 v5 1) fun v125_9 =>
  kU P (Instr.storeAt 87 v125_9 v124_9) w fun _ w =>
  J31 [] w) ∧
  (kV P (Instr.buildSlice 87 1 #[(0, v122_5)]) w fun v123_10 w =>
  kV P (Builtin.append_ #[87, 87] 87 #[v118_2, v120_3]) w fun v121_10 w =>
  kV P (Builtin.append_ #[87, 87] 87 #[v121_10, v123_10]) w fun v124_10 w =>
  pV P (Instr.fieldAt 89 v5 1) fun v125_10 =>
  kU P (Instr.storeAt 87 v125_10 v124_10) w fun _ w =>
  J31 [] w)) ∧
  (kV P (Instr.buildSlice 87 1 #[(0, v122_5)]) w fun v123_11 w =>
  kV P (Instr.buildSlice 87 0 #[]) w fun v118_3 w =>
  kV P (Builtin.append_ #[87, 87] 87 #[v118_3, v120_3]) w fun v121_11 w =>
  kV P (Builtin.append_ #[87, 87] 87 #[v121_11, v123_11]) w fun v124_11 w =>
  pV P (Instr.fieldAt 89 v5 1) fun v125_11 =>
  kU P (Instr.storeAt 87 v125_11 v124_11) w fun _ w =>
  J31 [] w))) ∧
  (kV P (Instr.loadAt 37 v21) w fun v122_6 w =>
  (kV P (Instr.buildSlice 87 0 #[]) w fun v118_4 w =>
  (kV P (Instr.loadAt 87 v119) w fun v120_4 w =>
  (kV P (Builtin.append_ #[87, 87] 87 #[v118_4, v120_4]) w fun v121_12 w =>
  kV P (Instr.buildSlice 87 1 #[(0, v122_6)]) w fun v123_12 w =>
  kV P (Builtin.append_ #[87, 87] 87 #[v121_12, v123_12]) w fun v124_12 w =>
  pV P (Instr.fieldAt 89 v5 1) fun v125_12 =>
  kU P (Instr.storeAt 87 v125_12 v124_12) w fun _ w =>
  J31 [] w) ∧
  (kV P (Instr.buildSlice 87 1 #[(0, v122_6)]) w fun v123_13 w =>
  kV P (Builtin.append_ #[87, 87] 87 #[v118_4, v120_4]) w fun v121_13 w =>
  kV P (Builtin.append_ #[87, 87] 87 #[v121_13, v123_13]) w fun v124_13 w =>
  pV P (Instr.fieldAt 89 v5 1) fun v125_13 =>
  kU P (Instr.storeAt 87 v125_13 v124_13) w fun _ w =>
  J31 [] w)) ∧
  (kV P (Instr.buildSlice 87 1 #[(0, v122_6)]) w fun v123_14 w =>
  kV P (Instr.loadAt 87 v119) w fun v120_5 w =>
  kV P (Builtin.append_ #[87, 87] 87 #[v118_4, v120_5]) w fun v121_14 w =>
  kV P (Builtin.append_ #[87, 87] 87 #[v121_14, v123_14]) w fun v124_14 w =>
  pV P (Instr.fieldAt 89 v5 1) fun v125_14 =>
  kU P (Instr.storeAt 87 v125_14 v124_14) w fun _ w =>
  J31 [] w)) ∧
  (kV P (Instr.loadAt 87 v119) w fun v120_6 w =>
  (kV P (Instr.buildSlice 87 0 #[]) w fun v118_5 w =>
  (kV P (Builtin.append_ #[87, 87] 87 #[v118_5, v120_6]) w fun v121_15 w =>
  kV P (Instr.buildSlice 87 1 #[(0, v122_6)]) w fun v123_15 w =>
  kV P (Builtin.append_ #[87, 87] 87 #[v121_15, v123_15]) w fun v124_15 w =>
  pV P (Instr.fieldAt 89 v5 1) fun v125_15 =>
  kU P (Instr.storeAt 87 v125_15 v124_15) w fun _ w =>
  J31 [] w) ∧
  (kV P (Instr.buildSlice 87 1 #[(0, v122_6)]) w fun v123_16 w =>
  kV P (Builtin.append_ #[87, 87] 87 #[v118_5, v120_6]) w fun v121_16 w =>
  kV P (Builtin.append_ #[87, 87] 87 #[v121_16, v123_16]) w fun v124_16 w =>
  pV P (Instr.fieldAt 89 v5 1) fun v125_16 =>
  kU P (Instr.storeAt 87 v125_16 v124_16) w fun _ w =>
  J31 [] w)) ∧
  (kV P (Instr.buildSlice 87 1 #[(0, v122_6)]) w fun v123_17 w =>
  kV P (Instr.buildSlice 87 0 #[]) w fun v118_6 w =>
  kV P (Builtin.append_ #[87, 87] 87 #[v118_6, v120_6]) w fun v121_17 w =>
  kV P (Builtin.append_ #[87, 87] 87 #[v121_17, v123_17]) w fun v124_17 w =>
  pV P (Instr.fieldAt 89 v5 1) fun v125_17 =>
  kU P (Instr.storeAt 87 v125_17 v124_17) w fun _ w =>
  J31 [] w)) ∧
  (kV P (Instr.buildSlice 87 1 #[(0, v122_6)]) w fun v123_18 w =>
  (kV P (Instr.buildSlice 87 0 #[]) w fun v118_7 w =>
  kV P (Instr.loadAt 87 v119) w fun v120_7 w =>
  kV P (Builtin.append_ #[87, 87] 87 #[v118_7, v120_7]) w fun v121_18 w =>
  kV P (Builtin.append_ #[87, 87] 87 #[v121_18, v123_18]) w fun v124_18 w =>
  pV P (Instr.fieldAt 89 v5 1) fun v125_18 =>
  kU P (Instr.storeAt 87 v125_18 v124_18) w fun _ w =>
  J31 [] w) ∧
  (kV P (Instr.loadAt 87 v119) w fun v120_8 w =>
  kV P (Instr.buildSlice 87 0 #[]) w fun v118_8 w =>
  kV P (Builtin.append_ #[87, 87] 87 #[v118_8, v120_8]) w fun v121_19 w =>
  kV P (Builtin.append_ #[87, 87] 87 #[v121_19, v123_18]) w fun v124_19 w =>
  pV P (Instr.fieldAt 89 v5 1) fun v125_19 =>
  kU P (Instr.storeAt 87 v125_19 v124_19) w fun _ w =>
  J31 [] w)))) w) fun s31 w => ∀ _ : Nat → Value,
  kV P (Instr.fieldAt 89 v5 0) w fun v126 w =>
  kV P (Instr.loadAt 86 v126) w fun v127 w =>
  kV P (Instr.fieldAt 89 v5 3) w fun v128 w =>
  kV P (Instr.loadAt 23 v128) w fun v129 w =>
  kV P (binV .quo 23 (.tmp 130) (.const (.int .u64 4096)) t2 (.int .u64 4096)) w fun v131 w =>
  kV P (Instr.fieldAt 89 v5 1) w fun v132 w =>
  kV P (Instr.loadAt 87 v132) w fun v133 w =>
  kV P (Builtin.len_ #[87] 3 #[v133]) w fun v134 w =>
  kV P (binV .sub 3 (.tmp 134) (.const (.int .i64 1)) v134 (.int .i64 1)) w fun v135 w =>
  kV P (convert 3 23 v135) w fun v136 w =>
  kV P (Instr.build 153 #[(0, v129), (1, v131), (2, v136)]) w fun v137 w =>
  kN P (callN (.func (.func 78) #[] #[]) #[v127, v137]) w fun v138 w =>
  kV P (Instr.fieldAt 89 v5 0) w fun v139 w =>
  kU P (Instr.storeAt 86 v139 v138) w fun _ w =>
  drewK (fun w =>
  (kV P (Instr.loadAt 89 v5) w fun v140 w =>
  (kV P (Instr.loadAt 28 v6) w fun v141 w =>
  kV P (Instr.loadAt 37 v21) w fun v142 w =>
  kN P (callN (.func (.func 77) #[] #[]) #[v142, t2, t3]) w fun v145 w =>
  kU P (Instr.storeAt 89 v10 v140) w fun _ w =>
  kU P (Instr.storeAt 28 v11 v141) w fun _ w =>
  kU P (Instr.storeAt 92 v12 v145) w fun _ w =>
  retV P 89 v10 w fun r33 =>
  retV P 28 v11 w fun r34 =>
  retV P 92 v12 w fun r35 =>
  K (.tuple #[r33, r34, r35, (.int .i64 0)]) w) ∧
  (kV P (Instr.loadAt 37 v21) w fun v142_1 w =>
  (kV P (Instr.loadAt 28 v6) w fun v141_1 w =>
  kN P (callN (.func (.func 77) #[] #[]) #[v142_1, t2, t3]) w fun v145_1 w =>
  kU P (Instr.storeAt 89 v10 v140) w fun _ w =>
  kU P (Instr.storeAt 28 v11 v141_1) w fun _ w =>
  kU P (Instr.storeAt 92 v12 v145_1) w fun _ w =>
  retV P 89 v10 w fun r36 =>
  retV P 28 v11 w fun r37 =>
  retV P 92 v12 w fun r38 =>
  K (.tuple #[r36, r37, r38, (.int .i64 0)]) w) ∧
  (kN P (callN (.func (.func 77) #[] #[]) #[v142_1, t2, t3]) w fun v145_2 w =>
  (kV P (Instr.loadAt 28 v6) w fun v141_2 w =>
  kU P (Instr.storeAt 89 v10 v140) w fun _ w =>
  kU P (Instr.storeAt 28 v11 v141_2) w fun _ w =>
  kU P (Instr.storeAt 92 v12 v145_2) w fun _ w =>
  retV P 89 v10 w fun r39 =>
  retV P 28 v11 w fun r40 =>
  retV P 92 v12 w fun r41 =>
  K (.tuple #[r39, r40, r41, (.int .i64 0)]) w) ∧
  (kU P (Instr.storeAt 89 v10 v140) w fun _ w =>
  kV P (Instr.loadAt 28 v6) w fun v141_3 w =>
  kU P (Instr.storeAt 28 v11 v141_3) w fun _ w =>
  kU P (Instr.storeAt 92 v12 v145_2) w fun _ w =>
  retV P 89 v10 w fun r42 =>
  retV P 28 v11 w fun r43 =>
  retV P 92 v12 w fun r44 =>
  K (.tuple #[r42, r43, r44, (.int .i64 0)]) w)))) ∧
  (kV P (Instr.loadAt 28 v6) w fun v141_4 w =>
  (kV P (Instr.loadAt 89 v5) w fun v140_1 w =>
  kV P (Instr.loadAt 37 v21) w fun v142_2 w =>
  kN P (callN (.func (.func 77) #[] #[]) #[v142_2, t2, t3]) w fun v145_3 w =>
  kU P (Instr.storeAt 89 v10 v140_1) w fun _ w =>
  kU P (Instr.storeAt 28 v11 v141_4) w fun _ w =>
  kU P (Instr.storeAt 92 v12 v145_3) w fun _ w =>
  retV P 89 v10 w fun r45 =>
  retV P 28 v11 w fun r46 =>
  retV P 92 v12 w fun r47 =>
  K (.tuple #[r45, r46, r47, (.int .i64 0)]) w) ∧
  (kV P (Instr.loadAt 37 v21) w fun v142_3 w =>
  (kV P (Instr.loadAt 89 v5) w fun v140_2 w =>
  kN P (callN (.func (.func 77) #[] #[]) #[v142_3, t2, t3]) w fun v145_4 w =>
  kU P (Instr.storeAt 89 v10 v140_2) w fun _ w =>
  kU P (Instr.storeAt 28 v11 v141_4) w fun _ w =>
  kU P (Instr.storeAt 92 v12 v145_4) w fun _ w =>
  retV P 89 v10 w fun r48 =>
  retV P 28 v11 w fun r49 =>
  retV P 92 v12 w fun r50 =>
  K (.tuple #[r48, r49, r50, (.int .i64 0)]) w) ∧
  (kN P (callN (.func (.func 77) #[] #[]) #[v142_3, t2, t3]) w fun v145_5 w =>
  kV P (Instr.loadAt 89 v5) w fun v140_3 w =>
  kU P (Instr.storeAt 89 v10 v140_3) w fun _ w =>
  kU P (Instr.storeAt 28 v11 v141_4) w fun _ w =>
  kU P (Instr.storeAt 92 v12 v145_5) w fun _ w =>
  retV P 89 v10 w fun r51 =>
  retV P 28 v11 w fun r52 =>
  retV P 92 v12 w fun r53 =>
  K (.tuple #[r51, r52, r53, (.int .i64 0)]) w))) ∧
  (kV P (Instr.loadAt 37 v21) w fun v142_4 w =>
  (kV P (Instr.loadAt 89 v5) w fun v140_4 w =>
  (kV P (Instr.loadAt 28 v6) w fun v141_5 w =>
  kN P (callN (.func (.func 77) #[] #[]) #[v142_4, t2, t3]) w fun v145_6 w =>
  kU P (Instr.storeAt 89 v10 v140_4) w fun _ w =>
  kU P (Instr.storeAt 28 v11 v141_5) w fun _ w =>
  kU P (Instr.storeAt 92 v12 v145_6) w fun _ w =>
  retV P 89 v10 w fun r54 =>
  retV P 28 v11 w fun r55 =>
  retV P 92 v12 w fun r56 =>
  K (.tuple #[r54, r55, r56, (.int .i64 0)]) w) ∧
  (kN P (callN (.func (.func 77) #[] #[]) #[v142_4, t2, t3]) w fun v145_7 w =>
  (kV P (Instr.loadAt 28 v6) w fun v141_6 w =>
  kU P (Instr.storeAt 89 v10 v140_4) w fun _ w =>
  kU P (Instr.storeAt 28 v11 v141_6) w fun _ w =>
  kU P (Instr.storeAt 92 v12 v145_7) w fun _ w =>
  retV P 89 v10 w fun r57 =>
  retV P 28 v11 w fun r58 =>
  retV P 92 v12 w fun r59 =>
  K (.tuple #[r57, r58, r59, (.int .i64 0)]) w) ∧
  (kU P (Instr.storeAt 89 v10 v140_4) w fun _ w =>
  kV P (Instr.loadAt 28 v6) w fun v141_7 w =>
  kU P (Instr.storeAt 28 v11 v141_7) w fun _ w =>
  kU P (Instr.storeAt 92 v12 v145_7) w fun _ w =>
  retV P 89 v10 w fun r60 =>
  retV P 28 v11 w fun r61 =>
  retV P 92 v12 w fun r62 =>
  K (.tuple #[r60, r61, r62, (.int .i64 0)]) w))) ∧
  (kV P (Instr.loadAt 28 v6) w fun v141_8 w =>
  (kV P (Instr.loadAt 89 v5) w fun v140_5 w =>
  kN P (callN (.func (.func 77) #[] #[]) #[v142_4, t2, t3]) w fun v145_8 w =>
  kU P (Instr.storeAt 89 v10 v140_5) w fun _ w =>
  kU P (Instr.storeAt 28 v11 v141_8) w fun _ w =>
  kU P (Instr.storeAt 92 v12 v145_8) w fun _ w =>
  retV P 89 v10 w fun r63 =>
  retV P 28 v11 w fun r64 =>
  retV P 92 v12 w fun r65 =>
  K (.tuple #[r63, r64, r65, (.int .i64 0)]) w) ∧
  (kN P (callN (.func (.func 77) #[] #[]) #[v142_4, t2, t3]) w fun v145_9 w =>
  kV P (Instr.loadAt 89 v5) w fun v140_6 w =>
  kU P (Instr.storeAt 89 v10 v140_6) w fun _ w =>
  kU P (Instr.storeAt 28 v11 v141_8) w fun _ w =>
  kU P (Instr.storeAt 92 v12 v145_9) w fun _ w =>
  retV P 89 v10 w fun r66 =>
  retV P 28 v11 w fun r67 =>
  retV P 92 v12 w fun r68 =>
  K (.tuple #[r66, r67, r68, (.int .i64 0)]) w)) ∧
  (kN P (callN (.func (.func 77) #[] #[]) #[v142_4, t2, t3]) w fun v145_10 w =>
  (kV P (Instr.loadAt 89 v5) w fun v140_7 w =>
  (kV P (Instr.loadAt 28 v6) w fun v141_9 w =>
  kU P (Instr.storeAt 89 v10 v140_7) w fun _ w =>
  kU P (Instr.storeAt 28 v11 v141_9) w fun _ w =>
  kU P (Instr.storeAt 92 v12 v145_10) w fun _ w =>
  retV P 89 v10 w fun r69 =>
  retV P 28 v11 w fun r70 =>
  retV P 92 v12 w fun r71 =>
  K (.tuple #[r69, r70, r71, (.int .i64 0)]) w) ∧
  (kU P (Instr.storeAt 89 v10 v140_7) w fun _ w =>
  kV P (Instr.loadAt 28 v6) w fun v141_10 w =>
  kU P (Instr.storeAt 28 v11 v141_10) w fun _ w =>
  kU P (Instr.storeAt 92 v12 v145_10) w fun _ w =>
  retV P 89 v10 w fun r72 =>
  retV P 28 v11 w fun r73 =>
  retV P 92 v12 w fun r74 =>
  K (.tuple #[r72, r73, r74, (.int .i64 0)]) w)) ∧
  (kV P (Instr.loadAt 28 v6) w fun v141_11 w =>
  kV P (Instr.loadAt 89 v5) w fun v140_8 w =>
  kU P (Instr.storeAt 89 v10 v140_8) w fun _ w =>
  kU P (Instr.storeAt 28 v11 v141_11) w fun _ w =>
  kU P (Instr.storeAt 92 v12 v145_10) w fun _ w =>
  retV P 89 v10 w fun r75 =>
  retV P 28 v11 w fun r76 =>
  retV P 92 v12 w fun r77 =>
  K (.tuple #[r75, r76, r77, (.int .i64 0)]) w)))) w)))
theorem F32_eq (P : Program) (t0 t1 t2 t3 t4 : Value) (w : World) (K : Value → World → Prop) : funE P ⟨[(9, 999), (10, 999), (8, 999), (20, 999), (21, 999), (23, 999), (17, 999), (14, 999), (2, 999)], [], [(11, []), (10, [61]), (21, []), (22, [])]⟩ Try.f32 [t0, t1, t2, t3, t4] w K = F32 P t0 t1 t2 t3 t4 w K := by kernel_rfl
theorem F32_ok (t0 t1 t2 t3 t4 : Value) (w : World) (K : Value → World → Prop) (h : F32 Try.prog t0 t1 t2 t3 t4 w K) : callsK Try.prog 32 #[t0, t1, t2, t3, t4] w K := calls_of_eq mixedU Try.func32 (F32_eq _ t0 t1 t2 t3 t4 w K) h

/-- (*mintmark/mmu.Unit).Plain -/
def F33 (P : Program) (t0 t1 t2 t3 t4 : Value) (w : World) (K : Value → World → Prop) : Prop :=
  kV P (Instr.alloc 76 true (.tuple #[])) w fun v10 w =>
  kV P (binV .eql 141 (.tmp 15) (.const (.pointer none)) t0 (.pointer none)) w fun v16 w =>
  condK v16
  (kV P (Instr.build 76 #[]) w fun v17 w =>
  kU P (Instr.storeAt 76 v10 v17) w fun _ w =>
  retV P 76 v10 w fun r0 =>
  K (.tuple #[r0, (.int .i64 1)]) w)
  (kN P (callN (.func (.func 71) #[] #[]) #[t0, t1, t2, t3, t4]) w fun v24 w =>
  kV P (Instr.extract v24 0) w fun v25 w =>
  kV P (Instr.extract v24 1) w fun v26 w =>
  kV P (Instr.extract v24 2) w fun v27 w =>
  kV P (Instr.alloc 34 true (.tuple #[])) w fun v12 w =>
  kU P (Instr.storeAt 34 v12 v25) w fun _ w =>
  kV P (binV .neq 3 (.tmp 28) (.const (.int .i64 0)) v26 (.int .i64 0)) w fun v29 w =>
  condK v29
  (kV P (Instr.build 76 #[]) w fun v30 w =>
  kU P (Instr.storeAt 76 v10 v30) w fun _ w =>
  retV P 76 v10 w fun r1 =>
  K (.tuple #[r1, v26]) w)
  (kV P (Instr.fieldAt 34 v12 0) w fun v32 w =>
  kV P (Instr.loadAt 32 v32) w fun v33 w =>
  kN P (callN (.func (.func 70) #[] #[]) #[v33, t2, t3]) w fun v36 w =>
  kU P (Instr.storeAt 76 v10 v36) w fun _ w =>
  retV P 76 v10 w fun r2 =>
  K (.tuple #[r2, (.int .i64 0)]) w))
theorem F33_eq (P : Program) (t0 t1 t2 t3 t4 : Value) (w : World) (K : Value → World → Prop) : funE P ⟨[], [], []⟩ Try.f33 [t0, t1, t2, t3, t4] w K = F33 P t0 t1 t2 t3 t4 w K := by kernel_rfl
theorem F33_ok (t0 t1 t2 t3 t4 : Value) (w : World) (K : Value → World → Prop) (h : F33 Try.prog t0 t1 t2 t3 t4 w K) : callsK Try.prog 33 #[t0, t1, t2, t3, t4] w K := calls_of_eq mixedU Try.func33 (F33_eq _ t0 t1 t2 t3 t4 w K) h

/-- (mintmark/mintmarkref12.Unit).Plain -/
def F34 (P : Program) (t0 t1 t2 t3 t4 : Value) (w : World) (K : Value → World → Prop) : Prop :=
  kV P (Instr.box 89 t0) w fun v5 w =>
  kV P (Instr.box 28 t1) w fun v6 w =>
  kV P (Instr.alloc 92 true (.tuple #[])) w fun v10 w =>
  kV P (Instr.loadAt 28 v6) w fun v16 w =>
  kV P (Instr.fieldAt 89 v5 2) w fun v17 w =>
  kV P (Instr.loadAt 23 v17) w fun v18 w =>
  kN P (callN (.func (.func 13) #[] #[]) #[v16, v18, t2]) w fun v20 w =>
  kV P (Instr.extract v20 0) w fun v21 w =>
  kV P (Instr.extract v20 1) w fun v22 w =>
  kV P (Instr.extract v20 2) w fun v23 w =>
  kV P (Instr.alloc 37 true (.tuple #[])) w fun v12 w =>
  kU P (Instr.storeAt 37 v12 v21) w fun _ w =>
  kV P (binV .neq 3 (.tmp 24) (.const (.int .i64 0)) v23 (.int .i64 0)) w fun v25 w =>
  condK v25
  (kV P (Instr.build 92 #[]) w fun v26 w =>
  kU P (Instr.storeAt 92 v10 v26) w fun _ w =>
  retV P 92 v10 w fun r0 =>
  K (.tuple #[r0, v23]) w)
  (kV P (Instr.loadAt 37 v12) w fun v28 w =>
  kV P (Instr.fieldAt 89 v5 4) w fun v31 w =>
  kV P (Instr.loadAt 4 v31) w fun v32 w =>
  kN P (callN (.func (.func 22) #[] #[]) #[v28, t3, t4, v32]) w fun v33 w =>
  kV P (binV .neq 3 (.tmp 34) (.const (.int .i64 0)) v33 (.int .i64 0)) w fun v35 w =>
  condK v35
  (kV P (Instr.build 92 #[]) w fun v36 w =>
  kU P (Instr.storeAt 92 v10 v36) w fun _ w =>
  retV P 92 v10 w fun r1 =>
  K (.tuple #[r1, v33]) w)
  (kV P (Instr.loadAt 37 v12) w fun v38 w =>
  kN P (callN (.func (.func 77) #[] #[]) #[v38, t2, t3]) w fun v41 w =>
  kU P (Instr.storeAt 92 v10 v41) w fun _ w =>
  retV P 92 v10 w fun r2 =>
  K (.tuple #[r2, (.int .i64 0)]) w))
theorem F34_eq (P : Program) (t0 t1 t2 t3 t4 : Value) (w : World) (K : Value → World → Prop) : funE P ⟨[], [], []⟩ Try.f34 [t0, t1, t2, t3, t4] w K = F34 P t0 t1 t2 t3 t4 w K := by kernel_rfl
theorem F34_ok (t0 t1 t2 t3 t4 : Value) (w : World) (K : Value → World → Prop) (h : F34 Try.prog t0 t1 t2 t3 t4 w K) : callsK Try.prog 34 #[t0, t1, t2, t3, t4] w K := calls_of_eq mixedU Try.func34 (F34_eq _ t0 t1 t2 t3 t4 w K) h

/-- (*mintmark/tlb.Tlb).Drop -/
def F37 (P : Program) (t0 t1 t2 : Value) (w : World) (K : Value → World → Prop) : Prop :=
  kV P (binV .neq 149 (.tmp 6) (.const (.pointer none)) t0 (.pointer none)) w fun v7 w =>
  condK v7
  (kN P (callN (.func (.func 82) #[] #[]) #[t0, t2]) w fun v10 w =>
  kN P (callN (.func (.func 84) #[] #[]) #[t1, t2]) w fun v13 w =>
  kN P (callN (.func (.func 83) #[] #[]) #[v10, v13]) w fun v14 w =>
  K (.tuple #[]) w)
  (K (.tuple #[]) w)
theorem F37_eq (P : Program) (t0 t1 t2 : Value) (w : World) (K : Value → World → Prop) : funE P ⟨[], [], []⟩ Try.f37 [t0, t1, t2] w K = F37 P t0 t1 t2 w K := by kernel_rfl
theorem F37_ok (t0 t1 t2 : Value) (w : World) (K : Value → World → Prop) (h : F37 Try.prog t0 t1 t2 w K) : callsK Try.prog 37 #[t0, t1, t2] w K := calls_of_eq mixedU Try.func37 (F37_eq _ t0 t1 t2 w K) h

/-- (mintmark/mintmarkref11.Tlb).Drop -/
def F38 (P : Program) (t0 t1 t2 : Value) (w : World) (K : Value → World → Prop) : Prop :=
  loopT (fun R0 s0 w => ∀ _ : Nat → Value,
  kV P (Builtin.len_ #[86] 3 #[t0]) w fun v11 w =>
  kV P (binV .lss 3 (.tmp 9) (.tmp 11) (s0.getD 1 undef) v11) w fun v12 w =>
  condK v12
  (joinL (fun J2 =>
  kV P (Instr.indexAt 86 t0 (s0.getD 1 undef)) w fun v17 w =>
  kV P (Instr.fieldAt 153 v17 0) w fun v18 w =>
  kV P (Instr.loadAt 23 v18) w fun v19 w =>
  kV P (binV .neq 23 (.tmp 19) (.tmp 20) v19 t1) w fun v21 w =>
  joinK (fun J4 : Value → World → Prop => gdK (yb v21) false (fun k => k t0 w) w fun v23 w =>
  gdK (yb v21) false (fun k => k (s0.getD 1 undef) w) w fun v24 w =>
  gdK (yb v21) false (fun k => kV P (Instr.indexAt 86 v23 v24) w k) w fun v25 w =>
  gdK (yb v21) false (fun k => kV P (Instr.fieldAt 153 v25 1) w k) w fun v26 w =>
  gdK (yb v21) false (fun k => kV P (Instr.loadAt 23 v26) w k) w fun v27 w =>
  gdK (yb v21) false (fun k => k t2 w) w fun v28 w =>
  gdK (yb v21) false (fun k => kV P (binV .neq 23 (.tmp 27) (.tmp 28) v27 v28) w k) w fun v29 w =>
  kN P (pickN v21 (.bool true) v29) w fun v30_1 w =>
  J4 v30_1 w) fun v30 w =>
  condK v30
  (kV P (Instr.indexAt 86 t0 (s0.getD 1 undef)) w fun v34 w =>
  kV P (Instr.loadAt 153 v34) w fun v35 w =>
  kV P (Instr.buildSlice 86 1 #[(0, v35)]) w fun v36 w =>
  kV P (Builtin.append_ #[86, 86] 86 #[(s0.getD 0 undef), v36]) w fun v37 w =>
  J2 [v37] w)
  (J2 [(s0.getD 0 undef)] w)) fun s2 w => ∀ _ : Nat → Value,
  kV P (binV .add 3 (.tmp 13) (.const (.int .i64 1)) (s0.getD 1 undef) (.int .i64 1)) w fun v14 w =>
  R0 [(s2.getD 0 undef), v14] w)
  (K (s0.getD 0 undef) w)) [(.slice none 0 0), (.int .i64 0)] w
theorem F38_eq (P : Program) (t0 t1 t2 : Value) (w : World) (K : Value → World → Prop) : funE P ⟨[], [(3, [7, 8])], [(4, [7])]⟩ Try.f38 [t0, t1, t2] w K = F38 P t0 t1 t2 w K := by kernel_rfl
theorem F38_ok (t0 t1 t2 : Value) (w : World) (K : Value → World → Prop) (h : F38 Try.prog t0 t1 t2 w K) : callsK Try.prog 38 #[t0, t1, t2] w K := calls_of_eq mixedU Try.func38 (F38_eq _ t0 t1 t2 w K) h

/-- (mintmark/mintmarkref11.Tlb).Flush -/
def F39 (P : Program) (t0 t1 : Value) (w : World) (K : Value → World → Prop) : Prop :=
  loopT (fun R0 s0 w => ∀ _ : Nat → Value,
  kV P (Builtin.len_ #[86] 3 #[t0]) w fun v9 w =>
  kV P (binV .lss 3 (.tmp 7) (.tmp 9) (s0.getD 1 undef) v9) w fun v10 w =>
  condK v10
  (joinL (fun J2 =>
  kV P (Instr.indexAt 86 t0 (s0.getD 1 undef)) w fun v15 w =>
  kV P (Instr.fieldAt 153 v15 0) w fun v16 w =>
  kV P (Instr.loadAt 23 v16) w fun v17 w =>
  kV P (binV .neq 23 (.tmp 17) (.tmp 18) v17 t1) w fun v19 w =>
  condK v19
  (kV P (Instr.indexAt 86 t0 (s0.getD 1 undef)) w fun v23 w =>
  kV P (Instr.loadAt 153 v23) w fun v24 w =>
  kV P (Instr.buildSlice 86 1 #[(0, v24)]) w fun v25 w =>
  kV P (Builtin.append_ #[86, 86] 86 #[(s0.getD 0 undef), v25]) w fun v26 w =>
  J2 [v26] w)
  (J2 [(s0.getD 0 undef)] w)) fun s2 w => ∀ _ : Nat → Value,
  kV P (binV .add 3 (.tmp 11) (.const (.int .i64 1)) (s0.getD 1 undef) (.int .i64 1)) w fun v12 w =>
  R0 [(s2.getD 0 undef), v12] w)
  (K (s0.getD 0 undef) w)) [(.slice none 0 0), (.int .i64 0)] w
theorem F39_eq (P : Program) (t0 t1 : Value) (w : World) (K : Value → World → Prop) : funE P ⟨[], [(3, [5, 6])], [(4, [5])]⟩ Try.f39 [t0, t1] w K = F39 P t0 t1 w K := by kernel_rfl
theorem F39_ok (t0 t1 : Value) (w : World) (K : Value → World → Prop) (h : F39 Try.prog t0 t1 w K) : callsK Try.prog 39 #[t0, t1] w K := calls_of_eq mixedU Try.func39 (F39_eq _ t0 t1 w K) h

/-- (*mintmark/tlb.Tlb).Clear -/
def F40 (P : Program) (t0 : Value) (w : World) (K : Value → World → Prop) : Prop :=
  kN P (callN (.func (.func 74) #[] #[]) #[t0, (.func (.func 85) #[] #[])]) w fun v3 w =>
  K (.tuple #[]) w
theorem F40_eq (P : Program) (t0 : Value) (w : World) (K : Value → World → Prop) : funE P ⟨[], [], []⟩ Try.f40 [t0] w K = F40 P t0 w K := by kernel_rfl
theorem F40_ok (t0 : Value) (w : World) (K : Value → World → Prop) (h : F40 Try.prog t0 w K) : callsK Try.prog 40 #[t0] w K := calls_of_eq mixedU Try.func40 (F40_eq _ t0 w K) h

/-- (*mintmark/tlb.Tlb).Evict -/
def F41 (P : Program) (t0 t1 : Value) (w : World) (K : Value → World → Prop) : Prop :=
  kN P (callN (.func (.func 43) #[] #[]) #[t0]) w fun v7 w =>
  kV P (Builtin.len_ #[105] 3 #[v7]) w fun v9 w =>
  kV P (binV .eql 3 (.tmp 9) (.const (.int .i64 0)) v9 (.int .i64 0)) w fun v10 w =>
  condK v10
  (K (.tuple #[]) w)
  (kV P (Builtin.len_ #[105] 3 #[v7]) w fun v14 w =>
  kV P (binV .rem 3 (.tmp 12) (.tmp 14) t1 v14) w fun v15 w =>
  kV P (Builtin.len_ #[105] 3 #[v7]) w fun v17 w =>
  kV P (binV .add 3 (.tmp 15) (.tmp 17) v15 v17) w fun v18 w =>
  kV P (Builtin.len_ #[105] 3 #[v7]) w fun v20 w =>
  kV P (binV .rem 3 (.tmp 18) (.tmp 20) v18 v20) w fun v21 w =>
  kV P (Instr.indexAt 105 v7 v21) w fun v22 w =>
  kV P (Instr.loadAt 66 v22) w fun v23 w =>
  kV P (Instr.alloc 66 true (.tuple #[])) w fun v5 w =>
  kU P (Instr.storeAt 66 v5 v23) w fun _ w =>
  kV P (Instr.fieldAt 66 v5 0) w fun v25 w =>
  kV P (Instr.loadAt 23 v25) w fun v26 w =>
  kV P (Instr.fieldAt 66 v5 1) w fun v27 w =>
  kV P (Instr.loadAt 23 v27) w fun v28 w =>
  kN P (callN (.func (.func 37) #[] #[]) #[t0, v26, v28]) w fun v29 w =>
  K (.tuple #[]) w)
theorem F41_eq (P : Program) (t0 t1 : Value) (w : World) (K : Value → World → Prop) : funE P ⟨[], [], []⟩ Try.f41 [t0, t1] w K = F41 P t0 t1 w K := by kernel_rfl
theorem F41_ok (t0 t1 : Value) (w : World) (K : Value → World → Prop) (h : F41 Try.prog t0 t1 w K) : callsK Try.prog 41 #[t0, t1] w K := calls_of_eq mixedU Try.func41 (F41_eq _ t0 t1 w K) h

/-- (mintmark/mintmarkref11.Tlb).Evict -/
def F42 (P : Program) (t0 t1 : Value) (w : World) (K : Value → World → Prop) : Prop :=
  kV P (Builtin.len_ #[86] 3 #[t0]) w fun v7 w =>
  kV P (binV .eql 3 (.tmp 7) (.const (.int .i64 0)) v7 (.int .i64 0)) w fun v8 w =>
  condK v8
  (K t0 w)
  (kV P (Builtin.len_ #[86] 3 #[t0]) w fun v12 w =>
  kV P (binV .rem 3 (.tmp 10) (.tmp 12) t1 v12) w fun v13 w =>
  kV P (Builtin.len_ #[86] 3 #[t0]) w fun v15 w =>
  kV P (binV .add 3 (.tmp 13) (.tmp 15) v13 v15) w fun v16 w =>
  kV P (Builtin.len_ #[86] 3 #[t0]) w fun v18 w =>
  kV P (binV .rem 3 (.tmp 16) (.tmp 18) v16 v18) w fun v19 w =>
  drewK (fun w =>
  pV P (Instr.sliceAt 86 t0 none (some v19) none) fun v23 =>
  pV P (binV .add 3 (.tmp 26) (.const (.int .i64 1)) v19 (.int .i64 1)) fun v27 =>
  pV P (Instr.sliceAt 86 t0 (some v27) none none) fun v28 =>
  kV P (Instr.buildSlice 86 0 #[]) w fun v20 w =>
  kV P (Builtin.append_ #[86, 86] 86 #[v20, v23]) w fun v24 w =>
  kV P (Builtin.append_ #[86, 86] 86 #[v24, v28]) w fun v29 w =>
  K v29 w) w)
theorem F42_eq (P : Program) (t0 t1 : Value) (w : World) (K : Value → World → Prop) : funE P ⟨[(4, 999)], [], []⟩ Try.f42 [t0, t1] w K = F42 P t0 t1 w K := by kernel_rfl
theorem F42_ok (t0 t1 : Value) (w : World) (K : Value → World → Prop) (h : F42 Try.prog t0 t1 w K) : callsK Try.prog 42 #[t0, t1] w K := calls_of_eq mixedU Try.func42 (F42_eq _ t0 t1 w K) h

/-- (*mintmark/tlb.Tlb).Lines -/
def F43 (P : Program) (t0 : Value) (w : World) (K : Value → World → Prop) : Prop :=
  kV P (binV .eql 149 (.tmp 6) (.const (.pointer none)) t0 (.pointer none)) w fun v7 w =>
  condK v7
  (K (.slice none 0 0) w)
  (loopT (fun R0 s0 w => ∀ _ : Nat → Value,
  kV P (binV .lss 3 (.tmp 8) (.const (.int .i64 4)) (s0.getD 1 undef) (.int .i64 4)) w fun v9 w =>
  condK v9
  (kN P (nilN t0) w fun v13 w =>
  kV P (Instr.fieldAt 72 v13 0) w fun v14 w =>
  kV P (Instr.indexAt 70 v14 (s0.getD 1 undef)) w fun v15 w =>
  drewK (fun w =>
  sN P (nilN v15) w fun v18 =>
  sV P (Instr.fieldAt 69 v18 0) w fun v19 =>
  sN P (nilN v15) w fun v21 =>
  sV P (Instr.fieldAt 69 v21 1) w fun v22 =>
  sV P (Instr.loadAt 3 v22) w fun v23 =>
  sN P (nilN v15) w fun v25 =>
  sV P (Instr.fieldAt 69 v25 1) w fun v26 =>
  sV P (Instr.loadAt 3 v26) w fun v27 =>
  sV P (Instr.sliceAt 67 v19 none (some v23) (some v27)) w fun v28 =>
  kV P (Builtin.append_ #[105, 105] 105 #[(s0.getD 0 undef), v28]) w fun v29 w =>
  kV P (binV .add 3 (.tmp 8) (.const (.int .i64 1)) (s0.getD 1 undef) (.int .i64 1)) w fun v30 w =>
  R0 [v29, v30] w) w)
  (K (s0.getD 0 undef) w)) [(.slice none 0 0), (.int .i64 0)] w)
theorem F43_eq (P : Program) (t0 : Value) (w : World) (K : Value → World → Prop) : funE P ⟨[(8, 13)], [(5, [3, 8])], []⟩ Try.f43 [t0] w K = F43 P t0 w K := by kernel_rfl
theorem F43_ok (t0 : Value) (w : World) (K : Value → World → Prop) (h : F43 Try.prog t0 w K) : callsK Try.prog 43 #[t0] w K := calls_of_eq mixedU Try.func43 (F43_eq _ t0 w K) h

/-- (*mintmark/tlb.Tlb).Look -/
def F68 (P : Program) (t0 t1 t2 : Value) (w : World) (K : Value → World → Prop) : Prop :=
  kV P (Instr.alloc 66 true (.tuple #[])) w fun v6 w =>
  kV P (binV .eql 149 (.tmp 12) (.const (.pointer none)) t0 (.pointer none)) w fun v13 w =>
  condK v13
  (kV P (Instr.build 66 #[]) w fun v14 w =>
  kU P (Instr.storeAt 66 v6 v14) w fun _ w =>
  retV P 66 v6 w fun r0 =>
  K (.tuple #[r0, (.bool false)]) w)
  (kN P (callN (.func (.func 82) #[] #[]) #[t0, t2]) w fun v17 w =>
  kN P (callN (.func (.func 84) #[] #[]) #[t1, t2]) w fun v20 w =>
  drewK (fun w =>
  sN P (nilN v17) w fun v22 =>
  sV P (Instr.fieldAt 69 v22 0) w fun v23 =>
  sN P (nilN v17) w fun v25 =>
  sV P (Instr.fieldAt 69 v25 1) w fun v26 =>
  sV P (Instr.loadAt 3 v26) w fun v27 =>
  sN P (nilN v17) w fun v29 =>
  sV P (Instr.fieldAt 69 v29 1) w fun v30 =>
  sV P (Instr.loadAt 3 v30) w fun v31 =>
  sV P (Instr.sliceAt 67 v23 none (some v27) (some v31)) w fun v32 =>
  sV P (Builtin.len_ #[105] 3 #[v32]) w fun v33 =>
  loopT (fun R1 s1 w => ∀ _ : Nat → Value,
  kV P (binV .lss 3 (.tmp 34) (.tmp 33) (s1.getD 0 undef) v33) w fun v35 w =>
  condK v35
  (kV P (Instr.indexAt 105 v32 (s1.getD 0 undef)) w fun v36 w =>
  kV P (Instr.loadAt 66 v36) w fun v37 w =>
  kV P (Instr.alloc 66 true (.tuple #[])) w fun v11 w =>
  kU P (Instr.storeAt 66 v11 v37) w fun _ w =>
  kV P (Instr.loadAt 66 v11) w fun v39 w =>
  kN P (callN v20 #[v39]) w fun v40 w =>
  condK v40
  (kV P (Instr.loadAt 66 v11) w fun v41 w =>
  kU P (Instr.storeAt 66 v6 v41) w fun _ w =>
  retV P 66 v6 w fun r3 =>
  K (.tuple #[r3, (.bool true)]) w)
  (kV P (binV .add 3 (.tmp 34) (.const (.int .i64 1)) (s1.getD 0 undef) (.int .i64 1)) w fun v42 w =>
  R1 [v42] w))
  (kV P (Instr.build 66 #[]) w fun v43 w =>
  kU P (Instr.storeAt 66 v6 v43) w fun _ w =>
  retV P 66 v6 w fun r4 =>
  K (.tuple #[r4, (.bool false)]) w)) [(.int .i64 0)] w) w)
theorem F68_eq (P : Program) (t0 t1 t2 : Value) (w : World) (K : Value → World → Prop) : funE P ⟨[], [(6, [34])], []⟩ Try.f68 [t0, t1, t2] w K = F68 P t0 t1 t2 w K := by kernel_rfl
theorem F68_ok (t0 t1 t2 : Value) (w : World) (K : Value → World → Prop) (h : F68 Try.prog t0 t1 t2 w K) : callsK Try.prog 68 #[t0, t1, t2] w K := calls_of_eq mixedU Try.func68 (F68_eq _ t0 t1 t2 w K) h

/-- mintmark/pte.Number -/
def F69 (P : Program) (t0 : Value) (w : World) (K : Value → World → Prop) : Prop :=
  kV P (binV .quo 23 (.tmp 3) (.const (.int .u64 4096)) t0 (.int .u64 4096)) w fun v4 w =>
  K v4 w
theorem F69_eq (P : Program) (t0 : Value) (w : World) (K : Value → World → Prop) : funE P ⟨[], [], []⟩ Try.f69 [t0] w K = F69 P t0 w K := by kernel_rfl
theorem F69_ok (t0 : Value) (w : World) (K : Value → World → Prop) (h : F69 Try.prog t0 w K) : callsK Try.prog 69 #[t0] w K := calls_of_eq mixedU Try.func69 (F69_eq _ t0 w K) h

/-- mintmark/mmu.place -/
def F70 (P : Program) (t0 t1 t2 : Value) (w : World) (K : Value → World → Prop) : Prop :=
  kV P (Instr.box 32 t0) w fun v3 w =>
  kV P (Instr.alloc 76 true (.tuple #[])) w fun v6 w =>
  drewK (fun w =>
  pV P (Instr.fieldAt 32 v3 12) fun v7 =>
  (kV P (Instr.loadAt 23 v7) w fun v8 w =>
  (kN P (callN (.func (.func 91) #[] #[]) #[v8]) w fun v9 w =>
  (kN P (callN (.func (.func 92) #[] #[]) #[t1]) w fun v11 w =>
  pV P (binV .add 23 (.tmp 9) (.tmp 11) v9 v11) fun v12 =>
  kV P (Instr.loadAt 32 v3) w fun v13 w =>
  kN P (callN (.func (.func 25) #[] #[]) #[v13, t2]) w fun v15 w =>
  pV P (Instr.build 76 #[(0, v12), (1, v15)]) fun v16 =>
  kU P (Instr.storeAt 76 v6 v16) w fun _ w =>
  retV P 76 v6 w fun r0 =>
  K r0 w) ∧
  (kV P (Instr.loadAt 32 v3) w fun v13_1 w =>
  kN P (callN (.func (.func 92) #[] #[]) #[t1]) w fun v11_1 w =>
  pV P (binV .add 23 (.tmp 9) (.tmp 11) v9 v11_1) fun v12_1 =>
  kN P (callN (.func (.func 25) #[] #[]) #[v13_1, t2]) w fun v15_1 w =>
  pV P (Instr.build 76 #[(0, v12_1), (1, v15_1)]) fun v16_1 =>
  kU P (Instr.storeAt 76 v6 v16_1) w fun _ w =>
  retV P 76 v6 w fun r1 =>
  K r1 w)) ∧
  (kV P (Instr.loadAt 32 v3) w fun v13_2 w =>
  kN P (callN (.func (.func 91) #[] #[]) #[v8]) w fun v9_1 w =>
  kN P (callN (.func (.func 92) #[] #[]) #[t1]) w fun v11_2 w =>
  pV P (binV .add 23 (.tmp 9) (.tmp 11) v9_1 v11_2) fun v12_2 =>
  kN P (callN (.func (.func 25) #[] #[]) #[v13_2, t2]) w fun v15_2 w =>
  pV P (Instr.build 76 #[(0, v12_2), (1, v15_2)]) fun v16_2 =>
  kU P (Instr.storeAt 76 v6 v16_2) w fun _ w =>
  retV P 76 v6 w fun r2 =>
  K r2 w)) ∧
  (kV P (Instr.loadAt 32 v3) w fun v13_3 w =>
  kV P (Instr.loadAt 23 v7) w fun v8_1 w =>
  kN P (callN (.func (.func 91) #[] #[]) #[v8_1]) w fun v9_2 w =>
  kN P (callN (.func (.func 92) #[] #[]) #[t1]) w fun v11_3 w =>
  pV P (binV .add 23 (.tmp 9) (.tmp 11) v9_2 v11_3) fun v12_3 =>
  kN P (callN (.func (.func 25) #[] #[]) #[v13_3, t2]) w fun v15_3 w =>
  pV P (Instr.build 76 #[(0, v12_3), (1, v15_3)]) fun v16_3 =>
  kU P (Instr.storeAt 76 v6 v16_3) w fun _ w =>
  retV P 76 v6 w fun r3 =>
  K r3 w)) w
theorem F70_eq (P : Program) (t0 t1 t2 : Value) (w : World) (K : Value → World → Prop) : funE P ⟨[(1, 999)], [], []⟩ Try.f70 [t0, t1, t2] w K = F70 P t0 t1 t2 w K := by kernel_rfl
theorem F70_ok (t0 t1 t2 : Value) (w : World) (K : Value → World → Prop) (h : F70 Try.prog t0 t1 t2 w K) : callsK Try.prog 70 #[t0, t1, t2] w K := calls_of_eq mixedU Try.func70 (F70_eq _ t0 t1 t2 w K) h

/-- (*mintmark/mmu.Unit).looked -/
def F71 (P : Program) (t0 t1 t2 t3 t4 : Value) (w : World) (K : Value → World → Prop) : Prop :=
  kV P (Instr.alloc 34 true (.tuple #[])) w fun v10 w =>
  kN P (nilN t0) w fun v18 w =>
  kV P (Instr.fieldAt 74 v18 1) w fun v19 w =>
  kV P (Instr.loadAt 23 v19) w fun v20 w =>
  kN P (callN (.func (.func 12) #[] #[]) #[t1, v20, t2]) w fun v22 w =>
  kV P (Instr.extract v22 0) w fun v23 w =>
  kV P (Instr.extract v22 1) w fun v24 w =>
  kV P (Instr.alloc 34 true (.tuple #[])) w fun v13 w =>
  kU P (Instr.storeAt 34 v13 v23) w fun _ w =>
  kV P (binV .neq 3 (.tmp 25) (.const (.int .i64 0)) v24 (.int .i64 0)) w fun v26 w =>
  condK v26
  (kV P (Instr.build 34 #[]) w fun v27 w =>
  kU P (Instr.storeAt 34 v10 v27) w fun _ w =>
  retV P 34 v10 w fun r0 =>
  K (.tuple #[r0, v24, (.bool false)]) w)
  (drewK (fun w =>
  pV P (Instr.fieldAt 34 v13 0) fun v30 =>
  pN P (nilN t0) fun v35 =>
  pV P (Instr.fieldAt 74 v35 3) fun v36 =>
  (kV P (Instr.loadAt 34 v13) w fun v29 w =>
  (kV P (Instr.loadAt 32 v30) w fun v31 w =>
  kV P (Instr.loadAt 4 v36) w fun v37 w =>
  kN P (callN (.func (.func 21) #[] #[]) #[v31, t3, t4, v37]) w fun v38 w =>
  kU P (Instr.storeAt 34 v10 v29) w fun _ w =>
  retV P 34 v10 w fun r1 =>
  K (.tuple #[r1, v38, (.bool true)]) w) ∧
  (kV P (Instr.loadAt 4 v36) w fun v37_1 w =>
  kV P (Instr.loadAt 32 v30) w fun v31_1 w =>
  kN P (callN (.func (.func 21) #[] #[]) #[v31_1, t3, t4, v37_1]) w fun v38_1 w =>
  kU P (Instr.storeAt 34 v10 v29) w fun _ w =>
  retV P 34 v10 w fun r2 =>
  K (.tuple #[r2, v38_1, (.bool true)]) w)) ∧
  (kV P (Instr.loadAt 32 v30) w fun v31_2 w =>
  (kV P (Instr.loadAt 34 v13) w fun v29_1 w =>
  kV P (Instr.loadAt 4 v36) w fun v37_2 w =>
  kN P (callN (.func (.func 21) #[] #[]) #[v31_2, t3, t4, v37_2]) w fun v38_2 w =>
  kU P (Instr.storeAt 34 v10 v29_1) w fun _ w =>
  retV P 34 v10 w fun r3 =>
  K (.tuple #[r3, v38_2, (.bool true)]) w) ∧
  (kV P (Instr.loadAt 4 v36) w fun v37_3 w =>
  (kV P (Instr.loadAt 34 v13) w fun v29_2 w =>
  kN P (callN (.func (.func 21) #[] #[]) #[v31_2, t3, t4, v37_3]) w fun v38_3 w =>
  kU P (Instr.storeAt 34 v10 v29_2) w fun _ w =>
  retV P 34 v10 w fun r4 =>
  K (.tuple #[r4, v38_3, (.bool true)]) w) ∧
  (kN P (callN (.func (.func 21) #[] #[]) #[v31_2, t3, t4, v37_3]) w fun v38_4 w =>
  kV P (Instr.loadAt 34 v13) w fun v29_3 w =>
  kU P (Instr.storeAt 34 v10 v29_3) w fun _ w =>
  retV P 34 v10 w fun r5 =>
  K (.tuple #[r5, v38_4, (.bool true)]) w))) ∧
  (kV P (Instr.loadAt 4 v36) w fun v37_4 w =>
  (kV P (Instr.loadAt 34 v13) w fun v29_4 w =>
  kV P (Instr.loadAt 32 v30) w fun v31_3 w =>
  kN P (callN (.func (.func 21) #[] #[]) #[v31_3, t3, t4, v37_4]) w fun v38_5 w =>
  kU P (Instr.storeAt 34 v10 v29_4) w fun _ w =>
  retV P 34 v10 w fun r6 =>
  K (.tuple #[r6, v38_5, (.bool true)]) w) ∧
  (kV P (Instr.loadAt 32 v30) w fun v31_4 w =>
  (kV P (Instr.loadAt 34 v13) w fun v29_5 w =>
  kN P (callN (.func (.func 21) #[] #[]) #[v31_4, t3, t4, v37_4]) w fun v38_6 w =>
  kU P (Instr.storeAt 34 v10 v29_5) w fun _ w =>
  retV P 34 v10 w fun r7 =>
  K (.tuple #[r7, v38_6, (.bool true)]) w) ∧
  (kN P (callN (.func (.func 21) #[] #[]) #[v31_4, t3, t4, v37_4]) w fun v38_7 w =>
  kV P (Instr.loadAt 34 v13) w fun v29_6 w =>
  kU P (Instr.storeAt 34 v10 v29_6) w fun _ w =>
  retV P 34 v10 w fun r8 =>
  K (.tuple #[r8, v38_7, (.bool true)]) w)))) w)
theorem F71_eq (P : Program) (t0 t1 t2 t3 t4 : Value) (w : World) (K : Value → World → Prop) : funE P ⟨[(4, 999)], [], []⟩ Try.f71 [t0, t1, t2, t3, t4] w K = F71 P t0 t1 t2 t3 t4 w K := by kernel_rfl
theorem F71_ok (t0 t1 t2 t3 t4 : Value) (w : World) (K : Value → World → Prop) (h : F71 Try.prog t0 t1 t2 t3 t4 w K) : callsK Try.prog 71 #[t0, t1, t2, t3, t4] w K := calls_of_eq mixedU Try.func71 (F71_eq _ t0 t1 t2 t3 t4 w K) h

/-- (*mintmark/tlb.Tlb).Put -/
def F72 (P : Program) (t0 t1 : Value) (w : World) (K : Value → World → Prop) : Prop :=
  kV P (Instr.box 66 t1) w fun v3 w =>
  kV P (binV .eql 149 (.tmp 5) (.const (.pointer none)) t0 (.pointer none)) w fun v6 w =>
  condK v6
  (K (.tuple #[]) w)
  (kV P (Instr.fieldAt 66 v3 1) w fun v8 w =>
  kV P (Instr.loadAt 23 v8) w fun v9 w =>
  kN P (callN (.func (.func 82) #[] #[]) #[t0, v9]) w fun v10 w =>
  kV P (Instr.fieldAt 66 v3 0) w fun v12 w =>
  kV P (Instr.loadAt 23 v12) w fun v13 w =>
  kV P (Instr.fieldAt 66 v3 1) w fun v14 w =>
  kV P (Instr.loadAt 23 v14) w fun v15 w =>
  kN P (callN (.func (.func 84) #[] #[]) #[v13, v15]) w fun v16 w =>
  kN P (callN (.func (.func 83) #[] #[]) #[v10, v16]) w fun v17 w =>
  joinL (fun J0 =>
  kN P (nilN v10) w fun v19 w =>
  kV P (Instr.fieldAt 69 v19 1) w fun v20 w =>
  kV P (Instr.loadAt 3 v20) w fun v21 w =>
  kV P (binV .eql 3 (.tmp 21) (.const (.int .i64 2)) v21 (.int .i64 2)) w fun v22 w =>
  condK v22
  (kN P (callN (.func (.func 93) #[] #[]) #[v10, (.int .i64 0)]) w fun v24 w =>
  J0 [] w)
  (J0 [] w)) fun s0 w => ∀ _ : Nat → Value,
  drewK (fun w =>
  sN P (nilN v10) w fun v27 =>
  sV P (Instr.fieldAt 69 v27 1) w fun v28 =>
  sV P (Instr.loadAt 3 v28) w fun v29 =>
  sV P (Instr.loadAt 66 v3) w fun v30 =>
  sN P (nilN v10) w fun v31 =>
  sV P (Instr.fieldAt 69 v31 0) w fun v32 =>
  kV P (Instr.indexAt 67 v32 v29) w fun v33 w =>
  kU P (Instr.storeAt 66 v33 v30) w fun _ w =>
  kN P (nilN v10) w fun v35 w =>
  kV P (Instr.fieldAt 69 v35 1) w fun v36 w =>
  kV P (Instr.loadAt 3 v36) w fun v37 w =>
  kV P (binV .add 3 (.tmp 37) (.const (.int .i64 1)) v37 (.int .i64 1)) w fun v38 w =>
  kN P (nilN v10) w fun v39 w =>
  kV P (Instr.fieldAt 69 v39 1) w fun v40 w =>
  kU P (Instr.storeAt 3 v40 v38) w fun _ w =>
  K (.tuple #[]) w) w)
theorem F72_eq (P : Program) (t0 t1 : Value) (w : World) (K : Value → World → Prop) : funE P ⟨[(6, 8)], [], [(6, [])]⟩ Try.f72 [t0, t1] w K = F72 P t0 t1 w K := by kernel_rfl
theorem F72_ok (t0 t1 : Value) (w : World) (K : Value → World → Prop) (h : F72 Try.prog t0 t1 w K) : callsK Try.prog 72 #[t0, t1] w K := calls_of_eq mixedU Try.func72 (F72_eq _ t0 t1 w K) h

/-- (*mintmark/tlb.Tlb).every -/
def F74 (P : Program) (t0 t1 : Value) (w : World) (K : Value → World → Prop) : Prop :=
  kV P (binV .eql 149 (.tmp 5) (.const (.pointer none)) t0 (.pointer none)) w fun v6 w =>
  condK v6
  (K (.tuple #[]) w)
  (loopT (fun R0 s0 w => ∀ _ : Nat → Value,
  kV P (binV .lss 3 (.tmp 7) (.const (.int .i64 4)) (s0.getD 0 undef) (.int .i64 4)) w fun v8 w =>
  condK v8
  (kN P (nilN t0) w fun v12 w =>
  kV P (Instr.fieldAt 72 v12 0) w fun v13 w =>
  kV P (Instr.indexAt 70 v13 (s0.getD 0 undef)) w fun v14 w =>
  kN P (callN (.func (.func 83) #[] #[]) #[v14, t1]) w fun v16 w =>
  kV P (binV .add 3 (.tmp 7) (.const (.int .i64 1)) (s0.getD 0 undef) (.int .i64 1)) w fun v17 w =>
  R0 [v17] w)
  (K (.tuple #[]) w)) [(.int .i64 0)] w)
theorem F74_eq (P : Program) (t0 t1 : Value) (w : World) (K : Value → World → Prop) : funE P ⟨[], [(2, [7])], []⟩ Try.f74 [t0, t1] w K = F74 P t0 t1 w K := by kernel_rfl
theorem F74_ok (t0 t1 : Value) (w : World) (K : Value → World → Prop) (h : F74 Try.prog t0 t1 w K) : callsK Try.prog 74 #[t0, t1] w K := calls_of_eq mixedU Try.func74 (F74_eq _ t0 t1 w K) h

/-- (*mintmark/tlb.Tlb).Flush$1 -/
def F75 (P : Program) (t0 t1 : Value) (w : World) (K : Value → World → Prop) : Prop :=
  kV P (Instr.box 66 t0) w fun v2 w =>
  kV P (Instr.fieldAt 66 v2 0) w fun v4 w =>
  kV P (Instr.loadAt 23 v4) w fun v5 w =>
  kV P (Instr.loadAt 23 t1) w fun v6 w =>
  kV P (binV .eql 23 (.tmp 5) (.tmp 6) v5 v6) w fun v7 w =>
  K v7 w
theorem F75_eq (P : Program) (t0 t1 : Value) (w : World) (K : Value → World → Prop) : funE P ⟨[], [], []⟩ Try.f75 [t0, t1] w K = F75 P t0 t1 w K := by kernel_rfl
theorem F75_ok (t0 t1 : Value) (w : World) (K : Value → World → Prop) (h : F75 Try.prog t0 t1 w K) : callsK Try.prog 75 #[t0, t1] w K := calls_of_eq mixedU Try.func75 (F75_eq _ t0 t1 w K) h

/-- (mintmark/mintmarkref11.Tlb).Look -/
def F76 (P : Program) (t0 t1 t2 : Value) (w : World) (K : Value → World → Prop) : Prop :=
  kV P (Instr.alloc 153 true (.tuple #[])) w fun v6 w =>
  loopT (fun R0 s0 w => ∀ _ : Nat → Value,
  kV P (Builtin.len_ #[86] 3 #[t0]) w fun v11 w =>
  kV P (binV .lss 3 (.tmp 9) (.tmp 11) (s0.getD 0 undef) v11) w fun v12 w =>
  condK v12
  (kV P (Instr.indexAt 86 t0 (s0.getD 0 undef)) w fun v17 w =>
  kV P (Instr.fieldAt 153 v17 0) w fun v18 w =>
  kV P (Instr.loadAt 23 v18) w fun v19 w =>
  kV P (binV .eql 23 (.tmp 19) (.tmp 20) v19 t1) w fun v21 w =>
  joinK (fun J2 : Value → World → Prop => gdK (yb v21) true (fun k => k t0 w) w fun v23 w =>
  gdK (yb v21) true (fun k => k (s0.getD 0 undef) w) w fun v24 w =>
  gdK (yb v21) true (fun k => kV P (Instr.indexAt 86 v23 v24) w k) w fun v25 w =>
  gdK (yb v21) true (fun k => kV P (Instr.fieldAt 153 v25 1) w k) w fun v26 w =>
  gdK (yb v21) true (fun k => kV P (Instr.loadAt 23 v26) w k) w fun v27 w =>
  gdK (yb v21) true (fun k => k t2 w) w fun v28 w =>
  gdK (yb v21) true (fun k => kV P (binV .eql 23 (.tmp 27) (.tmp 28) v27 v28) w k) w fun v29 w =>
  kN P (pickN v21 v29 (.bool false)) w fun v30_1 w =>
  J2 v30_1 w) fun v30 w =>
  condK v30
  (kV P (Instr.indexAt 86 t0 (s0.getD 0 undef)) w fun v33 w =>
  kV P (Instr.loadAt 153 v33) w fun v34 w =>
  kU P (Instr.storeAt 153 v6 v34) w fun _ w =>
  retV P 153 v6 w fun r3 =>
  K (.tuple #[r3, (.bool true)]) w)
  (kV P (binV .add 3 (.tmp 13) (.const (.int .i64 1)) (s0.getD 0 undef) (.int .i64 1)) w fun v14 w =>
  R0 [v14] w))
  (kV P (Instr.build 153 #[]) w fun v35 w =>
  kU P (Instr.storeAt 153 v6 v35) w fun _ w =>
  retV P 153 v6 w fun r4 =>
  K (.tuple #[r4, (.bool false)]) w)) [(.int .i64 0)] w
theorem F76_eq (P : Program) (t0 t1 t2 : Value) (w : World) (K : Value → World → Prop) : funE P ⟨[], [(2, [8])], []⟩ Try.f76 [t0, t1, t2] w K = F76 P t0 t1 t2 w K := by kernel_rfl
theorem F76_ok (t0 t1 t2 : Value) (w : World) (K : Value → World → Prop) (h : F76 Try.prog t0 t1 t2 w K) : callsK Try.prog 76 #[t0, t1, t2] w K := calls_of_eq mixedU Try.func76 (F76_eq _ t0 t1 t2 w K) h

/-- mintmark/mintmarkref12.place -/
def F77 (P : Program) (t0 t1 t2 : Value) (w : World) (K : Value → World → Prop) : Prop :=
  kV P (Instr.box 37 t0) w fun v3 w =>
  kV P (Instr.alloc 92 true (.tuple #[])) w fun v6 w =>
  kV P (Instr.fieldAt 37 v3 12) w fun v7 w =>
  kV P (Instr.loadAt 23 v7) w fun v8 w =>
  kV P (binV .mul 23 (.tmp 8) (.const (.int .u64 4096)) v8 (.int .u64 4096)) w fun v9 w =>
  kV P (binV .rem 23 (.tmp 10) (.const (.int .u64 4096)) t1 (.int .u64 4096)) w fun v11 w =>
  kV P (binV .add 23 (.tmp 9) (.tmp 11) v9 v11) w fun v12 w =>
  kV P (binV .eql 3 (.tmp 13) (.const (.int .i64 3)) t2 (.int .i64 3)) w fun v14 w =>
  joinK (fun J0 : Value → World → Prop => gdK (yb v14) true (fun k => kV P (Instr.fieldAt 37 v3 9) w k) w fun v16 w =>
  gdK (yb v14) true (fun k => kV P (Instr.loadAt 4 v16) w k) w fun v17 w =>
  gdK (yb v14) true (fun k => kV P (Op.unary .not v17) w k) w fun v18 w =>
  kN P (pickN v14 v18 (.bool false)) w fun v19_1 w =>
  J0 v19_1 w) fun v19 w =>
  kV P (Instr.build 92 #[(0, v12), (1, v19)]) w fun v20 w =>
  kU P (Instr.storeAt 92 v6 v20) w fun _ w =>
  retV P 92 v6 w fun r1 =>
  K r1 w
theorem F77_eq (P : Program) (t0 t1 t2 : Value) (w : World) (K : Value → World → Prop) : funE P ⟨[], [], []⟩ Try.f77 [t0, t1, t2] w K = F77 P t0 t1 t2 w K := by kernel_rfl
theorem F77_ok (t0 t1 t2 : Value) (w : World) (K : Value → World → Prop) (h : F77 Try.prog t0 t1 t2 w K) : callsK Try.prog 77 #[t0, t1, t2] w K := calls_of_eq mixedU Try.func77 (F77_eq _ t0 t1 t2 w K) h

/-- (mintmark/mintmarkref11.Tlb).Put -/
def F78 (P : Program) (t0 t1 : Value) (w : World) (K : Value → World → Prop) : Prop :=
  kV P (Instr.box 153 t1) w fun v3 w =>
  kV P (Instr.fieldAt 153 v3 0) w fun v11 w =>
  kV P (Instr.loadAt 23 v11) w fun v12 w =>
  kV P (Instr.fieldAt 153 v3 1) w fun v13 w =>
  kV P (Instr.loadAt 23 v13) w fun v14 w =>
  kN P (callN (.func (.func 38) #[] #[]) #[t0, v12, v14]) w fun v15 w =>
  loopT (fun R0 s0 w => ∀ _ : Nat → Value,
  kV P (Builtin.len_ #[86] 3 #[v15]) w fun v18 w =>
  kV P (binV .lss 3 (.tmp 16) (.tmp 18) (s0.getD 3 undef) v18) w fun v19 w =>
  condK v19
  (joinL (fun J2 =>
  joinL (fun J4 =>
  drewK (fun w =>
  sV P (Instr.indexAt 86 v15 (s0.getD 3 undef)) w fun v24 =>
  sV P (Instr.fieldAt 153 v24 1) w fun v25 =>
  sV P (Instr.loadAt 23 v25) w fun v26 =>
  sV P (binV .rem 23 (.tmp 26) (.const (.int .u64 4)) v26 (.int .u64 4)) w fun v27 =>
  sV P (Instr.fieldAt 153 v3 1) w fun v28 =>
  sV P (Instr.loadAt 23 v28) w fun v29 =>
  sV P (binV .rem 23 (.tmp 29) (.const (.int .u64 4)) v29 (.int .u64 4)) w fun v30 =>
  sV P (binV .leq 23 (.tmp 27) (.tmp 30) v27 v30) w fun v31 =>
  condK v31
  (kV P (binV .add 3 (.tmp 32) (.const (.int .i64 1)) (s0.getD 3 undef) (.int .i64 1)) w fun v33 w =>
  J4 [v33] w)
  (J4 [(s0.getD 0 undef)] w)) w) fun s4 w => ∀ _ : Nat → Value,
  drewK (fun w =>
  sV P (Instr.indexAt 86 v15 (s0.getD 3 undef)) w fun v36 =>
  sV P (Instr.fieldAt 153 v36 1) w fun v37 =>
  sV P (Instr.loadAt 23 v37) w fun v38 =>
  sV P (binV .rem 23 (.tmp 38) (.const (.int .u64 4)) v38 (.int .u64 4)) w fun v39 =>
  sV P (Instr.fieldAt 153 v3 1) w fun v40 =>
  sV P (Instr.loadAt 23 v40) w fun v41 =>
  sV P (binV .rem 23 (.tmp 41) (.const (.int .u64 4)) v41 (.int .u64 4)) w fun v42 =>
  sV P (binV .eql 23 (.tmp 39) (.tmp 42) v39 v42) w fun v43 =>
  condK v43
  (kV P (binV .add 3 (.tmp 44) (.const (.int .i64 1)) (s0.getD 1 undef) (.int .i64 1)) w fun v45 w =>
  kV P (binV .lss 3 (.tmp 46) (.const (.int .i64 0)) (s0.getD 2 undef) (.int .i64 0)) w fun v47 w =>
  condK v47
  (J2 [(s4.getD 0 undef), v45, (s0.getD 3 undef)] w)
  (J2 [(s4.getD 0 undef), v45, (s0.getD 2 undef)] w))
  (J2 [(s4.getD 0 undef), (s0.getD 1 undef), (s0.getD 2 undef)] w)) w) fun s2 w => ∀ _ : Nat → Value,
  kV P (binV .add 3 (.tmp 20) (.const (.int .i64 1)) (s0.getD 3 undef) (.int .i64 1)) w fun v21 w =>
  R0 [(s2.getD 0 undef), (s2.getD 1 undef), (s2.getD 2 undef), v21] w)
  (joinL (fun J6 =>
  drewK (fun w =>
  pV P (Instr.sliceAt 86 v15 none (some (s0.getD 0 undef)) none) fun v52 =>
  pV P (Instr.sliceAt 86 v15 (some (s0.getD 0 undef)) none none) fun v59 =>
  (kV P (Instr.buildSlice 86 0 #[]) w fun v49 w =>
  (kV P (Builtin.append_ #[86, 86] 86 #[v49, v52]) w fun v53 w =>
  kV P (Instr.loadAt 153 v3) w fun v54 w =>
  kV P (Instr.buildSlice 86 1 #[(0, v54)]) w fun v55 w =>
  kV P (Builtin.append_ #[86, 86] 86 #[v53, v55]) w fun v56 w =>
  kV P (Builtin.append_ #[86, 86] 86 #[v56, v59]) w fun v60 w =>
  J6 [v60] w) ∧
  (kV P (Instr.loadAt 153 v3) w fun v54_1 w =>
  (kV P (Builtin.append_ #[86, 86] 86 #[v49, v52]) w fun v53_1 w =>
  kV P (Instr.buildSlice 86 1 #[(0, v54_1)]) w fun v55_1 w =>
  kV P (Builtin.append_ #[86, 86] 86 #[v53_1, v55_1]) w fun v56_1 w =>
  kV P (Builtin.append_ #[86, 86] 86 #[v56_1, v59]) w fun v60_1 w =>
  J6 [v60_1] w) ∧
  (kV P (Instr.buildSlice 86 1 #[(0, v54_1)]) w fun v55_2 w =>
  kV P (Builtin.append_ #[86, 86] 86 #[v49, v52]) w fun v53_2 w =>
  kV P (Builtin.append_ #[86, 86] 86 #[v53_2, v55_2]) w fun v56_2 w =>
  kV P (Builtin.append_ #[86, 86] 86 #[v56_2, v59]) w fun v60_2 w =>
  J6 [v60_2] w))) ∧
  (kV P (Instr.loadAt 153 v3) w fun v54_2 w =>
  (kV P (Instr.buildSlice 86 0 #[]) w fun v49_1 w =>
  (kV P (Builtin.append_ #[86, 86] 86 #[v49_1, v52]) w fun v53_3 w =>
  kV P (Instr.buildSlice 86 1 #[(0, v54_2)]) w fun v55_3 w =>
  kV P (Builtin.append_ #[86, 86] 86 #[v53_3, v55_3]) w fun v56_3 w =>
  kV P (Builtin.append_ #[86, 86] 86 #[v56_3, v59]) w fun v60_3 w =>
  J6 [v60_3] w) ∧
  (kV P (Instr.buildSlice 86 1 #[(0, v54_2)]) w fun v55_4 w =>
  kV P (Builtin.append_ #[86, 86] 86 #[v49_1, v52]) w fun v53_4 w =>
  kV P (Builtin.append_ #[86, 86] 86 #[v53_4, v55_4]) w fun v56_4 w =>
  kV P (Builtin.append_ #[86, 86] 86 #[v56_4, v59]) w fun v60_4 w =>
  J6 [v60_4] w)) ∧
  (kV P (Instr.buildSlice 86 1 #[(0, v54_2)]) w fun v55_5 w =>
  kV P (Instr.buildSlice 86 0 #[]) w fun v49_2 w =>
  kV P (Builtin.append_ #[86, 86] 86 #[v49_2, v52]) w fun v53_5 w =>
  kV P (Builtin.append_ #[86, 86] 86 #[v53_5, v55_5]) w fun v56_5 w =>
  kV P (Builtin.append_ #[86, 86] 86 #[v56_5, v59]) w fun v60_5 w =>
  J6 [v60_5] w))) w) fun s6 w => ∀ _ : Nat → Value,
  joinL (fun J8 =>
  kV P (binV .eql 3 (.tmp 61) (.const (.int .i64 2)) (s0.getD 1 undef) (.int .i64 2)) w fun v62 w =>
  condK v62
  (drewK (fun w =>
  pV P (Instr.sliceAt 86 (s6.getD 0 undef) none (some (s0.getD 2 undef)) none) fun v66 =>
  pV P (binV .add 3 (.tmp 69) (.const (.int .i64 1)) (s0.getD 2 undef) (.int .i64 1)) fun v70 =>
  pV P (Instr.sliceAt 86 (s6.getD 0 undef) (some v70) none none) fun v71 =>
  kV P (Instr.buildSlice 86 0 #[]) w fun v63 w =>
  kV P (Builtin.append_ #[86, 86] 86 #[v63, v66]) w fun v67 w =>
  kV P (Builtin.append_ #[86, 86] 86 #[v67, v71]) w fun v72 w =>
  J8 [v72] w) w)
  (J8 [(s6.getD 0 undef)] w)) fun s8 w => ∀ _ : Nat → Value,
  K (s8.getD 0 undef) w)) [(.int .i64 0), (.int .i64 0), (.int .i64 (-1)), (.int .i64 0)] w
theorem F78_eq (P : Program) (t0 t1 : Value) (w : World) (K : Value → World → Prop) : funE P ⟨[(14, 999), (16, 999)], [(6, [7, 5, 6, 8])], [(15, [9]), (17, [9]), (7, [7, 5, 6]), (10, [7])]⟩ Try.f78 [t0, t1] w K = F78 P t0 t1 w K := by kernel_rfl
theorem F78_ok (t0 t1 : Value) (w : World) (K : Value → World → Prop) (h : F78 Try.prog t0 t1 w K) : callsK Try.prog 78 #[t0, t1] w K := calls_of_eq mixedU Try.func78 (F78_eq _ t0 t1 w K) h

/-- (*mintmark/tlb.Tlb).of -/
def F82 (P : Program) (t0 t1 : Value) (w : World) (K : Value → World → Prop) : Prop :=
  kV P (binV .rem 23 (.tmp 6) (.const (.int .u64 4)) t1 (.int .u64 4)) w fun v7 w =>
  kN P (nilN t0) w fun v8 w =>
  kV P (Instr.fieldAt 72 v8 0) w fun v9 w =>
  kV P (Instr.indexAt 70 v9 v7) w fun v10 w =>
  K v10 w
theorem F82_eq (P : Program) (t0 t1 : Value) (w : World) (K : Value → World → Prop) : funE P ⟨[], [], []⟩ Try.f82 [t0, t1] w K = F82 P t0 t1 w K := by kernel_rfl
theorem F82_ok (t0 t1 : Value) (w : World) (K : Value → World → Prop) (h : F82 Try.prog t0 t1 w K) : callsK Try.prog 82 #[t0, t1] w K := calls_of_eq mixedU Try.func82 (F82_eq _ t0 t1 w K) h

/-- (*mintmark/tlb.set).drop -/
def F83 (P : Program) (t0 t1 : Value) (w : World) (K : Value → World → Prop) : Prop :=
  kN P (nilN t0) w fun v6 w =>
  kV P (Instr.fieldAt 69 v6 1) w fun v7 w =>
  kV P (Instr.loadAt 3 v7) w fun v8 w =>
  kV P (binV .sub 3 (.tmp 8) (.const (.int .i64 1)) v8 (.int .i64 1)) w fun v9 w =>
  loopT (fun R0 s0 w => ∀ _ : Nat → Value,
  kV P (binV .geq 3 (.tmp 10) (.const (.int .i64 0)) (s0.getD 0 undef) (.int .i64 0)) w fun v11 w =>
  condK v11
  (joinL (fun J2 =>
  kN P (nilN t0) w fun v17 w =>
  kV P (Instr.fieldAt 69 v17 0) w fun v18 w =>
  kV P (Instr.indexAt 67 v18 (s0.getD 0 undef)) w fun v19 w =>
  kV P (Instr.loadAt 66 v19) w fun v20 w =>
  kN P (callN t1 #[v20]) w fun v21 w =>
  condK v21
  (kN P (callN (.func (.func 93) #[] #[]) #[t0, (s0.getD 0 undef)]) w fun v24 w =>
  J2 [] w)
  (J2 [] w)) fun s2 w => ∀ _ : Nat → Value,
  kV P (binV .sub 3 (.tmp 12) (.const (.int .i64 1)) (s0.getD 0 undef) (.int .i64 1)) w fun v13 w =>
  R0 [v13] w)
  (K (.tuple #[]) w)) [v9] w
theorem F83_eq (P : Program) (t0 t1 : Value) (w : World) (K : Value → World → Prop) : funE P ⟨[], [(1, [4])], [(2, [])]⟩ Try.f83 [t0, t1] w K = F83 P t0 t1 w K := by kernel_rfl
theorem F83_ok (t0 t1 : Value) (w : World) (K : Value → World → Prop) (h : F83 Try.prog t0 t1 w K) : callsK Try.prog 83 #[t0, t1] w K := calls_of_eq mixedU Try.func83 (F83_eq _ t0 t1 w K) h

/-- mintmark/tlb.page -/
def F84 (P : Program) (t0 t1 : Value) (w : World) (K : Value → World → Prop) : Prop :=
  kV P (Instr.box 23 t0) w fun v2 w =>
  kV P (Instr.box 23 t1) w fun v3 w =>
  K (.func (.func 96) #[] #[v2, v3]) w
theorem F84_eq (P : Program) (t0 t1 : Value) (w : World) (K : Value → World → Prop) : funE P ⟨[], [], []⟩ Try.f84 [t0, t1] w K = F84 P t0 t1 w K := by kernel_rfl
theorem F84_ok (t0 t1 : Value) (w : World) (K : Value → World → Prop) (h : F84 Try.prog t0 t1 w K) : callsK Try.prog 84 #[t0, t1] w K := calls_of_eq mixedU Try.func84 (F84_eq _ t0 t1 w K) h

/-- (*mintmark/tlb.Tlb).Clear$1 -/
def F85 (P : Program) (t0 : Value) (w : World) (K : Value → World → Prop) : Prop :=
  kV P (Instr.box 66 t0) w fun v1 w =>
  K (.bool true) w
theorem F85_eq (P : Program) (t0 : Value) (w : World) (K : Value → World → Prop) : funE P ⟨[], [], []⟩ Try.f85 [t0] w K = F85 P t0 w K := by kernel_rfl
theorem F85_ok (t0 : Value) (w : World) (K : Value → World → Prop) (h : F85 Try.prog t0 w K) : callsK Try.prog 85 #[t0] w K := calls_of_eq mixedU Try.func85 (F85_eq _ t0 w K) h

/-- (*mintmark/tlb.set).take -/
def F93 (P : Program) (t0 t1 : Value) (w : World) (K : Value → World → Prop) : Prop :=
  drewK (fun w =>
  sN P (nilN t0) w fun v5 =>
  sV P (Instr.fieldAt 69 v5 0) w fun v6 =>
  sV P (Instr.sliceAt 67 v6 (some t1) none none) w fun v8 =>
  sN P (nilN t0) w fun v10 =>
  sV P (Instr.fieldAt 69 v10 0) w fun v11 =>
  sV P (binV .add 3 (.tmp 12) (.const (.int .i64 1)) t1 (.int .i64 1)) w fun v13 =>
  sN P (nilN t0) w fun v15 =>
  sV P (Instr.fieldAt 69 v15 1) w fun v16 =>
  sV P (Instr.loadAt 3 v16) w fun v17 =>
  sV P (Instr.sliceAt 67 v11 (some v13) (some v17) none) w fun v18 =>
  kV P (Builtin.copy_ #[105, 105] 3 #[v8, v18]) w fun v19 w =>
  kN P (nilN t0) w fun v21 w =>
  kV P (Instr.fieldAt 69 v21 1) w fun v22 w =>
  kV P (Instr.loadAt 3 v22) w fun v23 w =>
  kV P (binV .sub 3 (.tmp 23) (.const (.int .i64 1)) v23 (.int .i64 1)) w fun v24 w =>
  kN P (nilN t0) w fun v25 w =>
  kV P (Instr.fieldAt 69 v25 1) w fun v26 w =>
  kU P (Instr.storeAt 3 v26 v24) w fun _ w =>
  drewK (fun w =>
  sN P (nilN t0) w fun v29 =>
  sV P (Instr.fieldAt 69 v29 1) w fun v30 =>
  sV P (Instr.loadAt 3 v30) w fun v31 =>
  sV P (Instr.build 66 #[]) w fun v32 =>
  sN P (nilN t0) w fun v33 =>
  sV P (Instr.fieldAt 69 v33 0) w fun v34 =>
  kV P (Instr.indexAt 67 v34 v31) w fun v35 w =>
  kU P (Instr.storeAt 66 v35 v32) w fun _ w =>
  K (.tuple #[]) w) w) w
theorem F93_eq (P : Program) (t0 t1 : Value) (w : World) (K : Value → World → Prop) : funE P ⟨[(2, 8), (0, 15)], [], []⟩ Try.f93 [t0, t1] w K = F93 P t0 t1 w K := by kernel_rfl
theorem F93_ok (t0 t1 : Value) (w : World) (K : Value → World → Prop) (h : F93 Try.prog t0 t1 w K) : callsK Try.prog 93 #[t0, t1] w K := calls_of_eq mixedU Try.func93 (F93_eq _ t0 t1 w K) h

/-- mintmark/tlb.page$1 -/
def F96 (P : Program) (t0 t1 t2 : Value) (w : World) (K : Value → World → Prop) : Prop :=
  kV P (Instr.box 66 t0) w fun v3 w =>
  kV P (Instr.fieldAt 66 v3 0) w fun v5 w =>
  kV P (Instr.loadAt 23 v5) w fun v6 w =>
  kV P (Instr.loadAt 23 t1) w fun v7 w =>
  kV P (binV .eql 23 (.tmp 6) (.tmp 7) v6 v7) w fun v8 w =>
  joinK (fun J0 : Value → World → Prop => gdK (yb v8) true (fun k => kV P (Instr.fieldAt 66 v3 1) w k) w fun v10 w =>
  gdK (yb v8) true (fun k => kV P (Instr.loadAt 23 v10) w k) w fun v11 w =>
  gdK (yb v8) true (fun k => kV P (Instr.loadAt 23 t2) w k) w fun v12 w =>
  gdK (yb v8) true (fun k => kV P (binV .eql 23 (.tmp 11) (.tmp 12) v11 v12) w k) w fun v13 w =>
  kN P (pickN v8 v13 (.bool false)) w fun v14_1 w =>
  J0 v14_1 w) fun v14 w =>
  K v14 w
theorem F96_eq (P : Program) (t0 t1 t2 : Value) (w : World) (K : Value → World → Prop) : funE P ⟨[], [], []⟩ Try.f96 [t0, t1, t2] w K = F96 P t0 t1 t2 w K := by kernel_rfl
theorem F96_ok (t0 t1 t2 : Value) (w : World) (K : Value → World → Prop) (h : F96 Try.prog t0 t1 t2 w K) : callsK Try.prog 96 #[t0, t1, t2] w K := calls_of_eq mixedU Try.func96 (F96_eq _ t0 t1 t2 w K) h

end Go.Proofs.Ytbigiabcgplkgaa
