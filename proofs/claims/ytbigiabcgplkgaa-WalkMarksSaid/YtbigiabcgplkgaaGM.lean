/- The formulas of functions of this seat, told otherwise; conditions: none. -/
import Derived.Test.YtbigiabcgplkgaaFM
namespace Go.Proofs.Ytbigiabcgplkgaa
open Go.Fx
set_option linter.unusedVariables false
set_option linter.constructorNameAsVariable false
set_option maxRecDepth 100000
/-- mintmark/mintmarklaw10.WalkMarks -/
def G7 (P : Program) (t0 t1 t2 : Value) (w : World) (K : Value → World → Prop) : Prop :=
  kV P (Instr.box 42 t2) w fun v5 w =>
  kN P (callN (.func (.func 11) #[] #[]) #[t0]) w fun v19 w =>
  kV P (Instr.extract v19 0) w fun v20 w =>
  kV P (Instr.extract v19 1) w fun v21 w =>
  kV P (Instr.alloc 28 true (.tuple #[])) w fun v8 w =>
  kU P (Instr.storeAt 28 v8 v21) w fun _ w =>
  drewK (fun w =>
  sV P (Instr.indexAt 42 v5 (.int .i64 0)) w fun v22 =>
  sV P (Instr.loadAt 3 v22) w fun v23 =>
  sV P (Instr.indexAt 42 v5 (.int .i64 1)) w fun v24 =>
  sV P (Instr.loadAt 3 v24) w fun v25 =>
  sV P (binV .and 3 (.tmp 25) (.const (.int .i64 1)) v25 (.int .i64 1)) w fun v26 =>
  sV P (binV .eql 3 (.tmp 26) (.const (.int .i64 1)) v26 (.int .i64 1)) w fun v27 =>
  kN P (callN (.func (.func 12) #[] #[]) #[v20, (.int .u64 0), t1]) w fun v31 w =>
  kV P (Instr.extract v31 0) w fun v32 w =>
  kV P (Instr.extract v31 1) w fun v33 w =>
  kV P (Instr.alloc 34 true (.tuple #[])) w fun v11 w =>
  kU P (Instr.storeAt 34 v11 v32) w fun _ w =>
  kV P (binV .neq 3 (.tmp 34) (.const (.int .i64 0)) v33 (.int .i64 0)) w fun v35 w =>
  condK v35
  (kN P (callN (.func (.func 14) #[] #[]) #[]) w fun v36 w =>
  K v36 w)
  (kV P (Instr.fieldAt 34 v11 0) w fun v37 w =>
  kV P (Instr.loadAt 32 v37) w fun v38 w =>
  kV P (Instr.indexAt 42 v5 (.int .i64 1)) w fun v41 w =>
  kV P (Instr.loadAt 3 v41) w fun v42 w =>
  kV P (binV .and 3 (.tmp 42) (.const (.int .i64 2)) v42 (.int .i64 2)) w fun v43 w =>
  kV P (binV .eql 3 (.tmp 43) (.const (.int .i64 2)) v43 (.int .i64 2)) w fun v44 w =>
  kN P (callN (.func (.func 21) #[] #[]) #[v38, v23, v27, v44]) w fun v45 w =>
  kV P (binV .neq 3 (.tmp 46) (.const (.int .i64 0)) v45 (.int .i64 0)) w fun v47 w =>
  condK v47
  (kN P (callN (.func (.func 14) #[] #[]) #[]) w fun v48 w =>
  K v48 w)
  (kV P (Instr.loadAt 34 v11) w fun v50 w =>
  kN P (callN (.func (.func 26) #[] #[]) #[v20, v50, v23, v27]) w fun v53 w =>
  kV P (Instr.alloc 34 true (.tuple #[])) w fun v14 w =>
  kU P (Instr.storeAt 34 v14 v53) w fun _ w =>
  kN P (callN (.func (.func 12) #[] #[]) #[v20, (.int .u64 0), t1]) w fun v57 w =>
  kV P (Instr.extract v57 0) w fun v58 w =>
  kV P (Instr.extract v57 1) w fun v59 w =>
  kV P (Instr.alloc 34 true (.tuple #[])) w fun v15 w =>
  kU P (Instr.storeAt 34 v15 v58) w fun _ w =>
  joinL (fun J0 =>
  drewK (fun w =>
  parR (fun I =>
  pV P (binV .neq 3 (.tmp 60) (.const (.int .i64 0)) v59 (.int .i64 0)) fun v61 =>
  gdP (yb v61) false (fun k => iV P I (Instr.loadAt 34 v14) k) fun v63 =>
  gdP (yb v61) false (fun k => iV P I (Instr.loadAt 34 v15) k) fun v64 =>
  gdP (yb v61) false (fun k => pV P (binV .neq 34 (.tmp 63) (.tmp 64) v63 v64) k) fun v65 =>
  pN P (pickN v61 (.bool true) v65) fun v66 =>
  gdP (yb v66) false (fun k => pV P (Instr.fieldAt 34 v14 1) k) fun v68 =>
  gdP (yb v66) false (fun k => iV P I (Instr.loadAt 23 v68) k) fun v69 =>
  gdP (yb v66) false (fun k => pV P (Instr.fieldAt 34 v11 1) k) fun v70 =>
  gdP (yb v66) false (fun k => iV P I (Instr.loadAt 23 v70) k) fun v71 =>
  gdP (yb v66) false (fun k => pV P (binV .neq 23 (.tmp 69) (.tmp 71) v69 v71) k) fun v72 =>
  pN P (pickN v66 (.bool true) v72) fun v73 =>
  gdP (yb v73) false (fun k => pV P (Instr.fieldAt 34 v14 0) k) fun v75 =>
  gdP (yb v73) false (fun k => iV P I (Instr.loadAt 32 v75) k) fun v76 =>
  gdP (yb v73) false (fun k => pV P (Instr.fieldAt 34 v11 0) k) fun v77 =>
  gdP (yb v73) false (fun k => iV P I (Instr.loadAt 32 v77) k) fun v78 =>
  gdP (yb v73) false (fun k => k v23) fun v79 =>
  gdP (yb v73) false (fun k => k v27) fun v80 =>
  gdP (yb v73) false (fun k => iN P I (callN (.func (.func 23) #[] #[]) #[v78, v79, v80]) k) fun v81 =>
  gdP (yb v73) false (fun k => pV P (binV .neq 32 (.tmp 76) (.tmp 81) v76 v81) k) fun v82 =>
  pN P (pickN v73 (.bool true) v82) fun v83 =>
  gdP (yb v83) false (fun k => pV P (Instr.fieldAt 34 v14 0) k) fun v85 =>
  gdP (yb v83) false (fun k => iV P I (Instr.loadAt 32 v85) k) fun v86 =>
  gdP (yb v83) false (fun k => k v23) fun v87 =>
  gdP (yb v83) false (fun k => k v27) fun v88 =>
  gdP (yb v83) false (fun k => iN P I (callN (.func (.func 23) #[] #[]) #[v86, v87, v88]) k) fun v89 =>
  gdP (yb v83) false (fun k => pV P (Instr.fieldAt 34 v14 0) k) fun v90 =>
  gdP (yb v83) false (fun k => iV P I (Instr.loadAt 32 v90) k) fun v91 =>
  gdP (yb v83) false (fun k => pV P (binV .neq 32 (.tmp 89) (.tmp 91) v89 v91) k) fun v92 =>
  pN P (pickN v83 (.bool true) v92) fun v93 =>
  allI I fun w =>
  J0 [v93] w) w) w) fun s0 w => ∀ _ : Nat → Value,
  condK (s0.getD 0 undef)
  (K (.bool false) w)
  (kV P (Instr.fieldAt 34 v14 0) w fun v94 w =>
  kV P (Instr.loadAt 32 v94) w fun v95 w =>
  kV P (Instr.alloc 32 true (.tuple #[])) w fun v16 w =>
  kU P (Instr.storeAt 32 v16 v95) w fun _ w =>
  joinL (fun J2 =>
  drewK (fun w =>
  pV P (Instr.fieldAt 34 v11 0) fun v96 =>
  pV P (Instr.fieldAt 32 v96 6) fun v97 =>
  pV P (Instr.fieldAt 34 v11 0) fun v99 =>
  pV P (Instr.fieldAt 32 v99 7) fun v100 =>
  pV P (Instr.fieldAt 34 v11 0) fun v102 =>
  pV P (Instr.fieldAt 32 v102 10) fun v103 =>
  (kV P (Instr.loadAt 4 v97) w fun v98 w =>
  pV P (Instr.fieldAt 32 v16 6) fun v105 =>
  (kV P (Instr.loadAt 4 v100) w fun v101 w =>
  (kV P (Instr.loadAt 4 v103) w fun v104 w =>
  kU P (Instr.storeAt 4 v105 v98) w fun _ w =>
  pV P (Instr.fieldAt 32 v16 7) fun v106 =>
  kU P (Instr.storeAt 4 v106 v101) w fun _ w =>
  pV P (Instr.fieldAt 32 v16 10) fun v107 =>
  kU P (Instr.storeAt 4 v107 v104) w fun _ w =>
  J2 [] w) ∧
  (kU P (Instr.storeAt 4 v105 v98) w fun _ w =>
  pV P (Instr.fieldAt 32 v16 7) fun v106_1 =>
  (kV P (Instr.loadAt 4 v103) w fun v104_1 w =>
  kU P (Instr.storeAt 4 v106_1 v101) w fun _ w =>
  pV P (Instr.fieldAt 32 v16 10) fun v107_1 =>
  kU P (Instr.storeAt 4 v107_1 v104_1) w fun _ w =>
  J2 [] w) ∧
  (kU P (Instr.storeAt 4 v106_1 v101) w fun _ w =>
  kV P (Instr.loadAt 4 v103) w fun v104_2 w =>
  pV P (Instr.fieldAt 32 v16 10) fun v107_2 =>
  kU P (Instr.storeAt 4 v107_2 v104_2) w fun _ w =>
  J2 [] w))) ∧
  (kV P (Instr.loadAt 4 v103) w fun v104_3 w =>
  (kV P (Instr.loadAt 4 v100) w fun v101_1 w =>
  kU P (Instr.storeAt 4 v105 v98) w fun _ w =>
  pV P (Instr.fieldAt 32 v16 7) fun v106_2 =>
  kU P (Instr.storeAt 4 v106_2 v101_1) w fun _ w =>
  pV P (Instr.fieldAt 32 v16 10) fun v107_3 =>
  kU P (Instr.storeAt 4 v107_3 v104_3) w fun _ w =>
  J2 [] w) ∧
  (kU P (Instr.storeAt 4 v105 v98) w fun _ w =>
  kV P (Instr.loadAt 4 v100) w fun v101_2 w =>
  pV P (Instr.fieldAt 32 v16 7) fun v106_3 =>
  kU P (Instr.storeAt 4 v106_3 v101_2) w fun _ w =>
  pV P (Instr.fieldAt 32 v16 10) fun v107_4 =>
  kU P (Instr.storeAt 4 v107_4 v104_3) w fun _ w =>
  J2 [] w)) ∧
  (kU P (Instr.storeAt 4 v105 v98) w fun _ w =>
  (kV P (Instr.loadAt 4 v100) w fun v101_3 w =>
  pV P (Instr.fieldAt 32 v16 7) fun v106_4 =>
  (kV P (Instr.loadAt 4 v103) w fun v104_4 w =>
  kU P (Instr.storeAt 4 v106_4 v101_3) w fun _ w =>
  pV P (Instr.fieldAt 32 v16 10) fun v107_5 =>
  kU P (Instr.storeAt 4 v107_5 v104_4) w fun _ w =>
  J2 [] w) ∧
  (kU P (Instr.storeAt 4 v106_4 v101_3) w fun _ w =>
  kV P (Instr.loadAt 4 v103) w fun v104_5 w =>
  pV P (Instr.fieldAt 32 v16 10) fun v107_6 =>
  kU P (Instr.storeAt 4 v107_6 v104_5) w fun _ w =>
  J2 [] w)) ∧
  (kV P (Instr.loadAt 4 v103) w fun v104_6 w =>
  kV P (Instr.loadAt 4 v100) w fun v101_4 w =>
  pV P (Instr.fieldAt 32 v16 7) fun v106_5 =>
  kU P (Instr.storeAt 4 v106_5 v101_4) w fun _ w =>
  pV P (Instr.fieldAt 32 v16 10) fun v107_7 =>
  kU P (Instr.storeAt 4 v107_7 v104_6) w fun _ w =>
  J2 [] w))) ∧
  (kV P (Instr.loadAt 4 v100) w fun v101_5 w =>
  (kV P (Instr.loadAt 4 v97) w fun v98_1 w =>
  pV P (Instr.fieldAt 32 v16 6) fun v105_1 =>
  (kV P (Instr.loadAt 4 v103) w fun v104_7 w =>
  kU P (Instr.storeAt 4 v105_1 v98_1) w fun _ w =>
  pV P (Instr.fieldAt 32 v16 7) fun v106_6 =>
  kU P (Instr.storeAt 4 v106_6 v101_5) w fun _ w =>
  pV P (Instr.fieldAt 32 v16 10) fun v107_8 =>
  kU P (Instr.storeAt 4 v107_8 v104_7) w fun _ w =>
  J2 [] w) ∧
  (kU P (Instr.storeAt 4 v105_1 v98_1) w fun _ w =>
  pV P (Instr.fieldAt 32 v16 7) fun v106_7 =>
  (kV P (Instr.loadAt 4 v103) w fun v104_8 w =>
  kU P (Instr.storeAt 4 v106_7 v101_5) w fun _ w =>
  pV P (Instr.fieldAt 32 v16 10) fun v107_9 =>
  kU P (Instr.storeAt 4 v107_9 v104_8) w fun _ w =>
  J2 [] w) ∧
  (kU P (Instr.storeAt 4 v106_7 v101_5) w fun _ w =>
  kV P (Instr.loadAt 4 v103) w fun v104_9 w =>
  pV P (Instr.fieldAt 32 v16 10) fun v107_10 =>
  kU P (Instr.storeAt 4 v107_10 v104_9) w fun _ w =>
  J2 [] w))) ∧
  (kV P (Instr.loadAt 4 v103) w fun v104_10 w =>
  kV P (Instr.loadAt 4 v97) w fun v98_2 w =>
  pV P (Instr.fieldAt 32 v16 6) fun v105_2 =>
  kU P (Instr.storeAt 4 v105_2 v98_2) w fun _ w =>
  pV P (Instr.fieldAt 32 v16 7) fun v106_8 =>
  kU P (Instr.storeAt 4 v106_8 v101_5) w fun _ w =>
  pV P (Instr.fieldAt 32 v16 10) fun v107_11 =>
  kU P (Instr.storeAt 4 v107_11 v104_10) w fun _ w =>
  J2 [] w)) ∧
  (kV P (Instr.loadAt 4 v103) w fun v104_11 w =>
  (kV P (Instr.loadAt 4 v97) w fun v98_3 w =>
  pV P (Instr.fieldAt 32 v16 6) fun v105_3 =>
  (kV P (Instr.loadAt 4 v100) w fun v101_6 w =>
  kU P (Instr.storeAt 4 v105_3 v98_3) w fun _ w =>
  pV P (Instr.fieldAt 32 v16 7) fun v106_9 =>
  kU P (Instr.storeAt 4 v106_9 v101_6) w fun _ w =>
  pV P (Instr.fieldAt 32 v16 10) fun v107_12 =>
  kU P (Instr.storeAt 4 v107_12 v104_11) w fun _ w =>
  J2 [] w) ∧
  (kU P (Instr.storeAt 4 v105_3 v98_3) w fun _ w =>
  kV P (Instr.loadAt 4 v100) w fun v101_7 w =>
  pV P (Instr.fieldAt 32 v16 7) fun v106_10 =>
  kU P (Instr.storeAt 4 v106_10 v101_7) w fun _ w =>
  pV P (Instr.fieldAt 32 v16 10) fun v107_13 =>
  kU P (Instr.storeAt 4 v107_13 v104_11) w fun _ w =>
  J2 [] w)) ∧
  (kV P (Instr.loadAt 4 v100) w fun v101_8 w =>
  kV P (Instr.loadAt 4 v97) w fun v98_4 w =>
  pV P (Instr.fieldAt 32 v16 6) fun v105_4 =>
  kU P (Instr.storeAt 4 v105_4 v98_4) w fun _ w =>
  pV P (Instr.fieldAt 32 v16 7) fun v106_11 =>
  kU P (Instr.storeAt 4 v106_11 v101_8) w fun _ w =>
  pV P (Instr.fieldAt 32 v16 10) fun v107_14 =>
  kU P (Instr.storeAt 4 v107_14 v104_11) w fun _ w =>
  J2 [] w))) w) fun s2 w => ∀ _ : Nat → Value,
  kV P (Instr.loadAt 32 v16) w fun v108 w =>
  kV P (Instr.fieldAt 34 v11 0) w fun v109 w =>
  kV P (Instr.loadAt 32 v109) w fun v110 w =>
  kV P (binV .eql 32 (.tmp 108) (.tmp 110) v108 v110) w fun v111 w =>
  joinK (fun J4 : Value → World → Prop => gdK (yb v111) true (fun k => kV P (Instr.fieldAt 34 v14 0) w k) w fun v113 w =>
  gdK (yb v111) true (fun k => kV P (Instr.loadAt 32 v113) w k) w fun v114 w =>
  gdK (yb v111) true (fun k => k v23 w) w fun v115 w =>
  gdK (yb v111) true (fun k => k v27 w) w fun v116 w =>
  gdK (yb v111) true (fun k => kV P (Instr.indexAt 42 v5 (.int .i64 1)) w k) w fun v117 w =>
  gdK (yb v111) true (fun k => kV P (Instr.loadAt 3 v117) w k) w fun v118 w =>
  gdK (yb v111) true (fun k => kV P (binV .and 3 (.tmp 118) (.const (.int .i64 2)) v118 (.int .i64 2)) w k) w fun v119 w =>
  gdK (yb v111) true (fun k => kV P (binV .eql 3 (.tmp 119) (.const (.int .i64 2)) v119 (.int .i64 2)) w k) w fun v120 w =>
  gdK (yb v111) true (fun k => kN P (callN (.func (.func 21) #[] #[]) #[v114, v115, v116, v120]) w k) w fun v121 w =>
  gdK (yb v111) true (fun k => kV P (binV .eql 3 (.tmp 121) (.const (.int .i64 0)) v121 (.int .i64 0)) w k) w fun v122 w =>
  kN P (pickN v111 v122 (.bool false)) w fun v123_1 w =>
  J4 v123_1 w) fun v123 w =>
  joinK (fun J5 : Value → World → Prop => gdK (yb v123) true (fun k => kV P (Instr.fieldAt 34 v14 0) w k) w fun v125 w =>
  gdK (yb v123) true (fun k => kV P (Instr.loadAt 32 v125) w k) w fun v126 w =>
  gdK (yb v123) true (fun k => kN P (callN (.func (.func 19) #[] #[]) #[v126]) w k) w fun v127 w =>
  kN P (pickN v123 v127 (.bool false)) w fun v128_1 w =>
  J5 v128_1 w) fun v128 w =>
  joinK (fun J6 : Value → World → Prop => gdK (yb v128) true (fun k => kN P (callN (.func (.func 14) #[] #[]) #[]) w k) w fun v130 w =>
  kN P (pickN v128 v130 (.bool false)) w fun v131_1 w =>
  J6 v131_1 w) fun v131 w =>
  K v131 w)))) w
theorem G7_eq (P : Program) (t0 t1 t2 : Value) (w : World) (K : Value → World → Prop) : funE P ⟨[(11, 998), (14, 999)], [], [(12, [93]), (15, [])]⟩ Try.f7 [t0, t1, t2] w K = G7 P t0 t1 t2 w K := by kernel_rfl
theorem G7_ok (t0 t1 t2 : Value) (w : World) (K : Value → World → Prop) (h : G7 Try.prog t0 t1 t2 w K) : callsK Try.prog 7 #[t0, t1, t2] w K := calls_of_eq mixedM Try.func7 (G7_eq _ t0 t1 t2 w K) h

end Go.Proofs.Ytbigiabcgplkgaa
