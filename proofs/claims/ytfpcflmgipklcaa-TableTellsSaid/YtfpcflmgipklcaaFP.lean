/- The formulas of functions of this seat, each tied to its calls; conditions: none. -/
import Derived.Test.YtfpcflmgipklcaaProg
import Derived.Test.YtfpcflmgipklcaaFx
import Derived.KernelRfl
namespace Go.Proofs.Ytfpcflmgipklcaa
open Go.Fx
set_option linter.unusedVariables false
set_option linter.constructorNameAsVariable false
set_option maxRecDepth 100000
theorem mixedP : Try.prog.follows .mixedOrders = true := by kernel_rfl
/-- mintmark/mintmarklaw22.TableTells -/
def F5 (P : Program) (t0 t1 : Value) (w : World) (K : Value → World → Prop) : Prop :=
  kV P (Instr.box 3 t1) w fun v3 w =>
  kN P (callN (.func (.func 6) #[] #[]) #[(.int .i64 16)]) w fun v22 w =>
  kV P (Instr.extract v22 0) w fun v23 w =>
  kV P (Instr.extract v22 1) w fun v24 w =>
  kN P (callN (.func (.func 7) #[] #[]) #[(.int .i64 16)]) w fun v26 w =>
  kV P (Instr.extract v26 0) w fun v27 w =>
  kV P (Instr.extract v26 1) w fun v28 w =>
  kN P (callN (.func (.func 8) #[] #[]) #[v23, v27]) w fun v32 w =>
  kV P (Instr.extract v32 0) w fun v33 w =>
  kV P (Instr.extract v32 1) w fun v34 w =>
  kV P (binV .neq 25 (.tmp 35) (.const (.int .i64 0)) v34 (.int .i64 0)) w fun v36 w =>
  joinK (fun J0 : Value → World → Prop => gdK (yb v36) false (fun k => k v33 w) w fun v38 w =>
  gdK (yb v36) false (fun k => kV P (binV .eql 31 (.tmp 38) (.const (.pointer none)) v38 (.pointer none)) w k) w fun v39 w =>
  kN P (pickN v36 (.bool true) v39) w fun v40_1 w =>
  J0 v40_1 w) fun v40 w =>
  condK v40
  (K (.bool false) w)
  (kV P (Instr.makeMap 67 none) w fun v41 w =>
  kV P (Instr.alloc 67 true (.tuple #[])) w fun v11 w =>
  kU P (Instr.storeAt 67 v11 v41) w fun _ w =>
  loopT (fun R1 s1 w => ∀ _ : Nat → Value,
  kV P (Builtin.len_ #[22] 3 #[t0]) w fun v44 w =>
  kV P (binV .lss 3 (.tmp 42) (.tmp 44) (s1.getD 0 undef) v44) w fun v45 w =>
  joinK (fun J3 : Value → World → Prop => gdK (yb v45) true (fun k => k (s1.getD 0 undef) w) w fun v47 w =>
  gdK (yb v45) true (fun k => kV P (binV .lss 3 (.tmp 47) (.const (.int .i64 30)) v47 (.int .i64 30)) w k) w fun v48 w =>
  kN P (pickN v45 v48 (.bool false)) w fun v49_1 w =>
  J3 v49_1 w) fun v49 w =>
  condK v49
  (joinL (fun J4 =>
  kV P (Instr.indexAt 22 t0 (s1.getD 0 undef)) w fun v54 w =>
  kV P (Instr.loadAt 42 v54) w fun v55 w =>
  kV P (Instr.alloc 42 true (.tuple #[])) w fun v13 w =>
  kU P (Instr.storeAt 42 v13 v55) w fun _ w =>
  joinL (fun J6 =>
  kV P (Instr.fieldAt 42 v13 0) w fun v56 w =>
  kV P (Instr.loadAt 3 v56) w fun v57 w =>
  kV P (binV .eql 3 (.tmp 57) (.const (.int .i64 2)) v57 (.int .i64 2)) w fun v58 w =>
  joinK (fun J9 : Value → World → Prop => gdK (yb v58) true (fun k => k v33 w) w fun v60 w =>
  gdK (yb v58) true (fun k => kV P (Instr.fieldAt 42 v13 2) w k) w fun v61 w =>
  gdK (yb v58) true (fun k => kV P (Instr.loadAt 23 v61) w k) w fun v62 w =>
  gdK (yb v58) true (fun k => kN P (callN (.func (.func 12) #[] #[]) #[v60, v62]) w k) w fun v63 w =>
  gdK (yb v58) true (fun k => kV P (binV .eql 25 (.tmp 63) (.const (.int .i64 0)) v63 (.int .i64 0)) w k) w fun v64 w =>
  kN P (pickN v58 v64 (.bool false)) w fun v65_1 w =>
  J9 v65_1 w) fun v65 w =>
  condK v65
  (kV P (Instr.loadAt 67 v11) w fun v66 w =>
  kV P (Instr.fieldAt 42 v13 2) w fun v67 w =>
  kV P (Instr.loadAt 23 v67) w fun v68 w =>
  kV P (binV .quo 23 (.tmp 68) (.const (.int .u64 4096)) v68 (.int .u64 4096)) w fun v69 w =>
  kV P (Builtin.delete_ #[67, 23] 0 #[v66, v69]) w fun _ w =>
  J6 [] w)
  (J6 [] w)) fun s6 w => ∀ _ : Nat → Value,
  kV P (Instr.fieldAt 42 v13 0) w fun v70 w =>
  kV P (Instr.loadAt 3 v70) w fun v71 w =>
  kV P (binV .eql 3 (.tmp 71) (.const (.int .i64 0)) v71 (.int .i64 0)) w fun v72 w =>
  joinK (fun J8 : Value → World → Prop => gdK (yb v72) true (fun k => k v33 w) w fun v74 w =>
  gdK (yb v72) true (fun k => kV P (Instr.fieldAt 42 v13 2) w k) w fun v75 w =>
  gdK (yb v72) true (fun k => kV P (Instr.loadAt 23 v75) w k) w fun v76 w =>
  gdK (yb v72) true (fun k => kV P (Instr.fieldAt 42 v13 3) w k) w fun v77 w =>
  gdK (yb v72) true (fun k => kV P (Instr.loadAt 40 v77) w k) w fun v78 w =>
  gdK (yb v72) true (fun k => kN P (callN (.func (.func 9) #[] #[]) #[v74, v76, v78]) w k) w fun v79 w =>
  gdK (yb v72) true (fun k => kV P (binV .eql 25 (.tmp 79) (.const (.int .i64 0)) v79 (.int .i64 0)) w k) w fun v80 w =>
  kN P (pickN v72 v80 (.bool false)) w fun v81_1 w =>
  J8 v81_1 w) fun v81 w =>
  condK v81
  (kV P (Instr.fieldAt 42 v13 3) w fun v82 w =>
  kV P (Instr.loadAt 40 v82) w fun v83 w =>
  kN P (callN (.func (.func 26) #[] #[]) #[v83]) w fun v84 w =>
  kN P (callN (.func (.func 25) #[] #[]) #[v84]) w fun v85 w =>
  kV P (Instr.alloc 40 true (.tuple #[])) w fun v14 w =>
  kU P (Instr.storeAt 40 v14 v85) w fun _ w =>
  kV P (Instr.loadAt 67 v11) w fun v86 w =>
  kV P (Instr.fieldAt 42 v13 2) w fun v87 w =>
  kV P (Instr.loadAt 23 v87) w fun v88 w =>
  kV P (binV .quo 23 (.tmp 88) (.const (.int .u64 4096)) v88 (.int .u64 4096)) w fun v89 w =>
  kV P (Instr.loadAt 40 v14) w fun v90 w =>
  kU P (Instr.mapUpdate 67 v86 v89 v90) w fun _ w =>
  J4 [] w)
  (J4 [] w)) fun s4 w => ∀ _ : Nat → Value,
  kV P (binV .add 3 (.tmp 50) (.const (.int .i64 1)) (s1.getD 0 undef) (.int .i64 1)) w fun v51 w =>
  R1 [v51] w)
  (kN P (callN (.func (.func 27) #[] #[]) #[v33]) w fun v92 w =>
  kV P (binV .eql 71 (.tmp 93) (.const .nilFunc) v92 .nilFunc) w fun v94 w =>
  condK v94
  (K (.bool false) w)
  (kV P (Instr.alloc 3 true (.tuple #[])) w fun v16 w =>
  kV P (Instr.alloc 4 true (.tuple #[])) w fun v17 w =>
  kV P (Instr.alloc 23 true (.tuple #[])) w fun v18 w =>
  kU P (Instr.storeAt 3 v16 (.int .i64 0)) w fun _ w =>
  kU P (Instr.storeAt 4 v17 (.bool true)) w fun _ w =>
  kU P (Instr.storeAt 23 v18 (.int .u64 0)) w fun _ w =>
  kN P (callN v92 #[(.func (.func 28) #[] #[v17, v16, v18, v11])]) w fun v97 w =>
  kV P (Instr.alloc 3 true (.tuple #[])) w fun v19 w =>
  kU P (Instr.storeAt 3 v19 (.int .i64 0)) w fun _ w =>
  kN P (callN v92 #[(.func (.func 29) #[] #[v19, v3])]) w fun v100 w =>
  kN P (callN (.func (.func 18) #[] #[]) #[v33]) w fun v102 w =>
  kV P (Instr.loadAt 4 v17) w fun v103 w =>
  kV P (Op.unary .not v103) w fun v104 w =>
  joinK (fun J10 : Value → World → Prop => gdK (yb v104) false (fun k => kV P (Instr.loadAt 3 v16) w k) w fun v106 w =>
  gdK (yb v104) false (fun k => kV P (Instr.loadAt 67 v11) w k) w fun v107 w =>
  gdK (yb v104) false (fun k => kV P (Builtin.len_ #[67] 3 #[v107]) w k) w fun v108 w =>
  gdK (yb v104) false (fun k => kV P (binV .neq 3 (.tmp 106) (.tmp 108) v106 v108) w k) w fun v109 w =>
  kN P (pickN v104 (.bool true) v109) w fun v110_1 w =>
  J10 v110_1 w) fun v110 w =>
  joinK (fun J11 : Value → World → Prop => gdK (yb v110) false (fun k => kV P (Instr.loadAt 3 v19) w k) w fun v112 w =>
  gdK (yb v110) false (fun k => kV P (Instr.loadAt 3 v16) w k) w fun v113 w =>
  gdK (yb v110) false (fun k => kV P (Instr.loadAt 3 v3) w k) w fun v114 w =>
  gdK (yb v110) false (fun k => kV P (binV .and 3 (.tmp 114) (.const (.int .i64 7)) v114 (.int .i64 7)) w k) w fun v115 w =>
  gdK (yb v110) false (fun k => kV P (binV .add 3 (.tmp 115) (.const (.int .i64 1)) v115 (.int .i64 1)) w k) w fun v116 w =>
  gdK (yb v110) false (fun k => kV P (Builtin.min_ #[3, 3] 3 #[v113, v116]) w k) w fun v117 w =>
  gdK (yb v110) false (fun k => kV P (binV .neq 3 (.tmp 112) (.tmp 117) v112 v117) w k) w fun v118 w =>
  kN P (pickN v110 (.bool true) v118) w fun v119_1 w =>
  J11 v119_1 w) fun v119 w =>
  joinK (fun J12 : Value → World → Prop => gdK (yb v119) false (fun k => k v102 w) w fun v121 w =>
  gdK (yb v119) false (fun k => kV P (Builtin.len_ #[38] 3 #[v121]) w k) w fun v122 w =>
  gdK (yb v119) false (fun k => k t0 w) w fun v123 w =>
  gdK (yb v119) false (fun k => kV P (Builtin.len_ #[22] 3 #[v123]) w k) w fun v124 w =>
  gdK (yb v119) false (fun k => kV P (binV .mul 3 (.const (.int .i64 2)) (.tmp 124) (.int .i64 2) v124) w k) w fun v125 w =>
  gdK (yb v119) false (fun k => kV P (binV .add 3 (.const (.int .i64 1)) (.tmp 125) (.int .i64 1) v125) w k) w fun v126 w =>
  gdK (yb v119) false (fun k => kV P (binV .gtr 3 (.tmp 122) (.tmp 126) v122 v126) w k) w fun v127 w =>
  kN P (pickN v119 (.bool true) v127) w fun v128_1 w =>
  J12 v128_1 w) fun v128 w =>
  joinK (fun J13 : Value → World → Prop => gdK (yb v128) false (fun k => k v27 w) w fun v130 w =>
  gdK (yb v128) false (fun k => kN P (callN (.func (.func 19) #[] #[]) #[v130]) w k) w fun v131 w =>
  gdK (yb v128) false (fun k => k v102 w) w fun v132 w =>
  gdK (yb v128) false (fun k => kV P (Builtin.len_ #[38] 3 #[v132]) w k) w fun v133 w =>
  gdK (yb v128) false (fun k => kV P (binV .sub 3 (.const (.int .i64 16)) (.tmp 133) (.int .i64 16) v133) w k) w fun v134 w =>
  gdK (yb v128) false (fun k => kV P (binV .neq 3 (.tmp 131) (.tmp 134) v131 v134) w k) w fun v135 w =>
  kN P (pickN v128 (.bool true) v135) w fun v136_1 w =>
  J13 v136_1 w) fun v136 w =>
  condK v136
  (K (.bool false) w)
  (kN P (callN (.func (.func 30) #[] #[]) #[v33]) w fun v138 w =>
  kV P (binV .neq 25 (.tmp 138) (.const (.int .i64 0)) v138 (.int .i64 0)) w fun v139 w =>
  joinK (fun J14 : Value → World → Prop => gdK (yb v139) false (fun k => k v27 w) w fun v141 w =>
  gdK (yb v139) false (fun k => kN P (callN (.func (.func 19) #[] #[]) #[v141]) w k) w fun v142 w =>
  gdK (yb v139) false (fun k => kV P (binV .neq 3 (.tmp 142) (.const (.int .i64 16)) v142 (.int .i64 16)) w k) w fun v143 w =>
  kN P (pickN v139 (.bool true) v143) w fun v144_1 w =>
  J14 v144_1 w) fun v144 w =>
  joinK (fun J15 : Value → World → Prop => gdK (yb v144) false (fun k => k v33 w) w fun v146 w =>
  gdK (yb v144) false (fun k => kN P (callN (.func (.func 30) #[] #[]) #[v146]) w k) w fun v147 w =>
  gdK (yb v144) false (fun k => kV P (binV .neq 25 (.tmp 147) (.const (.int .i64 1)) v147 (.int .i64 1)) w k) w fun v148 w =>
  kN P (pickN v144 (.bool true) v148) w fun v149_1 w =>
  J15 v149_1 w) fun v149 w =>
  joinK (fun J16 : Value → World → Prop => gdK (yb v149) false (fun k => k v33 w) w fun v151 w =>
  gdK (yb v149) false (fun k => kN P (callN (.func (.func 21) #[] #[]) #[v151]) w k) w fun v152 w =>
  gdK (yb v149) false (fun k => kV P (binV .neq 23 (.tmp 152) (.const (.int .u64 0)) v152 (.int .u64 0)) w k) w fun v153 w =>
  kN P (pickN v149 (.bool true) v153) w fun v154_1 w =>
  J16 v154_1 w) fun v154 w =>
  condK v154
  (K (.bool false) w)
  (kN P (callN (.func (.func 22) #[] #[]) #[]) w fun v155 w =>
  K v155 w))))) [(.int .i64 0)] w)
theorem F5_eq (P : Program) (t0 t1 : Value) (w : World) (K : Value → World → Prop) : funE P ⟨[], [(8, [12])], [(9, []), (13, [])]⟩ Try.f5 [t0, t1] w K = F5 P t0 t1 w K := by kernel_rfl
theorem F5_ok (t0 t1 : Value) (w : World) (K : Value → World → Prop) (h : F5 Try.prog t0 t1 w K) : callsK Try.prog 5 #[t0, t1] w K := calls_of_eq mixedP Try.func5 (F5_eq _ t0 t1 w K) h

/-- (*mintmark/table.Tables).Pages -/
def F27 (P : Program) (t0 : Value) (w : World) (K : Value → World → Prop) : Prop :=
  kV P (Instr.box 31 t0) w fun v1 w =>
  K (.func (.func 56) #[] #[v1]) w
theorem F27_eq (P : Program) (t0 : Value) (w : World) (K : Value → World → Prop) : funE P ⟨[], [], []⟩ Try.f27 [t0] w K = F27 P t0 w K := by kernel_rfl
theorem F27_ok (t0 : Value) (w : World) (K : Value → World → Prop) (h : F27 Try.prog t0 w K) : callsK Try.prog 27 #[t0] w K := calls_of_eq mixedP Try.func27 (F27_eq _ t0 w K) h

/-- mintmark/mintmarklaw22.TableTells$1 -/
def F28 (P : Program) (t0 t1 t2 t3 t4 t5 : Value) (w : World) (K : Value → World → Prop) : Prop :=
  kV P (Instr.box 40 t1) w fun v7 w =>
  kV P (Instr.loadAt 4 t2) w fun v9 w =>
  joinK (fun J0 : Value → World → Prop => gdK (yb v9) true (fun k => k t0 w) w fun v11 w =>
  gdK (yb v9) true (fun k => kV P (binV .rem 23 (.tmp 11) (.const (.int .u64 4096)) v11 (.int .u64 4096)) w k) w fun v12 w =>
  gdK (yb v9) true (fun k => kV P (binV .eql 23 (.tmp 12) (.const (.int .u64 0)) v12 (.int .u64 0)) w k) w fun v13 w =>
  kN P (pickN v9 v13 (.bool false)) w fun v14_1 w =>
  J0 v14_1 w) fun v14 w =>
  joinK (fun J1 : Value → World → Prop => gdK (yb v14) true (fun k => kV P (Instr.loadAt 3 t3) w k) w fun v16 w =>
  gdK (yb v14) true (fun k => kV P (binV .eql 3 (.tmp 16) (.const (.int .i64 0)) v16 (.int .i64 0)) w k) w fun v17 w =>
  gdK (yb v14) true (fun k => k v17 w) w fun v18 w =>
  gdK (yb v18) false (fun k => k t0 w) w fun v19 w =>
  gdK (yb v18) false (fun k => kV P (Instr.loadAt 23 t4) w k) w fun v20 w =>
  gdK (yb v18) false (fun k => kV P (binV .gtr 23 (.tmp 19) (.tmp 20) v19 v20) w k) w fun v21 w =>
  gdK (yb v14) true (fun k => kN P (pickN v18 (.bool true) v21) w k) w fun v22 w =>
  kN P (pickN v14 v22 (.bool false)) w fun v23_1 w =>
  J1 v23_1 w) fun v23 w =>
  joinK (fun J2 : Value → World → Prop => gdK (yb v23) true (fun k => kV P (Instr.loadAt 67 t5) w k) w fun v25 w =>
  gdK (yb v23) true (fun k => k t0 w) w fun v26 w =>
  gdK (yb v23) true (fun k => kV P (binV .quo 23 (.tmp 26) (.const (.int .u64 4096)) v26 (.int .u64 4096)) w k) w fun v27 w =>
  gdK (yb v23) true (fun k => kV P (Instr.lookup 67 v25 v27 false) w k) w fun v28 w =>
  gdK (yb v23) true (fun k => kV P (Instr.loadAt 40 v7) w k) w fun v29 w =>
  gdK (yb v23) true (fun k => kV P (binV .eql 40 (.tmp 28) (.tmp 29) v28 v29) w k) w fun v30 w =>
  kN P (pickN v23 v30 (.bool false)) w fun v31_1 w =>
  J2 v31_1 w) fun v31 w =>
  kU P (Instr.storeAt 4 t2 v31) w fun _ w =>
  kU P (Instr.storeAt 23 t4 t0) w fun _ w =>
  kV P (Instr.loadAt 3 t3) w fun v33 w =>
  kV P (binV .add 3 (.tmp 33) (.const (.int .i64 1)) v33 (.int .i64 1)) w fun v34 w =>
  kU P (Instr.storeAt 3 t3 v34) w fun _ w =>
  K (.bool true) w
theorem F28_eq (P : Program) (t0 t1 t2 t3 t4 t5 : Value) (w : World) (K : Value → World → Prop) : funE P ⟨[], [], []⟩ Try.f28 [t0, t1, t2, t3, t4, t5] w K = F28 P t0 t1 t2 t3 t4 t5 w K := by kernel_rfl
theorem F28_ok (t0 t1 t2 t3 t4 t5 : Value) (w : World) (K : Value → World → Prop) (h : F28 Try.prog t0 t1 t2 t3 t4 t5 w K) : callsK Try.prog 28 #[t0, t1, t2, t3, t4, t5] w K := calls_of_eq mixedP Try.func28 (F28_eq _ t0 t1 t2 t3 t4 t5 w K) h

/-- mintmark/mintmarklaw22.TableTells$2 -/
def F29 (P : Program) (t0 t1 t2 t3 : Value) (w : World) (K : Value → World → Prop) : Prop :=
  kV P (Instr.box 40 t1) w fun v5 w =>
  kV P (Instr.loadAt 3 t2) w fun v7 w =>
  kV P (binV .add 3 (.tmp 7) (.const (.int .i64 1)) v7 (.int .i64 1)) w fun v8 w =>
  kU P (Instr.storeAt 3 t2 v8) w fun _ w =>
  kV P (Instr.loadAt 3 t2) w fun v9 w =>
  kV P (Instr.loadAt 3 t3) w fun v10 w =>
  kV P (binV .and 3 (.tmp 10) (.const (.int .i64 7)) v10 (.int .i64 7)) w fun v11 w =>
  kV P (binV .leq 3 (.tmp 9) (.tmp 11) v9 v11) w fun v12 w =>
  K v12 w
theorem F29_eq (P : Program) (t0 t1 t2 t3 : Value) (w : World) (K : Value → World → Prop) : funE P ⟨[], [], []⟩ Try.f29 [t0, t1, t2, t3] w K = F29 P t0 t1 t2 t3 w K := by kernel_rfl
theorem F29_ok (t0 t1 t2 t3 : Value) (w : World) (K : Value → World → Prop) (h : F29 Try.prog t0 t1 t2 t3 w K) : callsK Try.prog 29 #[t0, t1, t2, t3] w K := calls_of_eq mixedP Try.func29 (F29_eq _ t0 t1 t2 t3 w K) h

/-- (*mintmark/table.Tables).Pages$1 -/
def F56 (P : Program) (t0 t1 : Value) (w : World) (K : Value → World → Prop) : Prop :=
  kV P (Instr.loadAt 31 t1) w fun v3 w =>
  kN P (callN (.func (.func 33) #[] #[]) #[v3]) w fun v4 w =>
  kV P (Op.unary .not v4) w fun v5 w =>
  condK v5
  (drewK (fun w =>
  sV P (Instr.loadAt 31 t1) w fun v6 =>
  sV P (Instr.loadAt 31 t1) w fun v7 =>
  sN P (nilN v7) w fun v8 =>
  sV P (Instr.fieldAt 85 v8 2) w fun v9 =>
  sV P (Instr.loadAt 38 v9) w fun v10 =>
  sV P (Instr.indexAt 38 v10 (.int .i64 0)) w fun v11 =>
  sV P (Instr.loadAt 3 v11) w fun v12 =>
  sV P (convert 3 23 v12) w fun v13 =>
  kN P (callN (.func (.func 57) #[] #[]) #[v6, v13, (.int .u64 0), (.int .i64 2), t0]) w fun v15 w =>
  K (.tuple #[]) w) w)
  (K (.tuple #[]) w)
theorem F56_eq (P : Program) (t0 t1 : Value) (w : World) (K : Value → World → Prop) : funE P ⟨[(1, 9)], [], []⟩ Try.f56 [t0, t1] w K = F56 P t0 t1 w K := by kernel_rfl
theorem F56_ok (t0 t1 : Value) (w : World) (K : Value → World → Prop) (h : F56 Try.prog t0 t1 w K) : callsK Try.prog 56 #[t0, t1] w K := calls_of_eq mixedP Try.func56 (F56_eq _ t0 t1 w K) h

/-- (*mintmark/table.Tables).under -/
def F57 (P : Program) (t0 t1 t2 t3 t4 : Value) (w : World) (K : Value → World → Prop) : Prop :=
  kN P (callN (.func (.func 74) #[] #[]) #[(.int .u64 1)]) w fun v15 w =>
  loopT (fun R0 s0 w => ∀ _ : Nat → Value,
  kV P (binV .lss 3 (.tmp 17) (.tmp 16) (s0.getD 1 undef) t3) w fun v18 w =>
  condK v18
  (kV P (binV .mul 23 (.tmp 19) (.const (.int .u64 512)) (s0.getD 0 undef) (.int .u64 512)) w fun v20 w =>
  kV P (binV .add 3 (.tmp 17) (.const (.int .i64 1)) (s0.getD 1 undef) (.int .i64 1)) w fun v21 w =>
  R0 [v20, v21] w)
  (loopT (fun R2 s2 w => ∀ _ : Nat → Value,
  kV P (binV .lss 3 (.tmp 22) (.const (.int .i64 512)) (s2.getD 0 undef) (.int .i64 512)) w fun v23 w =>
  condK v23
  (joinL (fun J4 =>
  kN P (callN (.func (.func 60) #[] #[]) #[t1, (s2.getD 0 undef)]) w fun v28 w =>
  kN P (callN (.func (.func 44) #[] #[]) #[t0, v28]) w fun v29 w =>
  kV P (Instr.alloc 40 true (.tuple #[])) w fun v13 w =>
  kU P (Instr.storeAt 40 v13 v29) w fun _ w =>
  kV P (convert 3 23 (s2.getD 0 undef)) w fun v32 w =>
  kV P (binV .mul 23 (.tmp 32) (.tmp 33) v32 (s0.getD 0 undef)) w fun v34 w =>
  kV P (binV .add 23 (.tmp 30) (.tmp 34) t2 v34) w fun v35 w =>
  kV P (Instr.fieldAt 40 v13 0) w fun v37 w =>
  kV P (Instr.loadAt 4 v37) w fun v38 w =>
  kV P (Op.unary .not v38) w fun v39 w =>
  condK v39
  (J4 [] w)
  (kV P (binV .gtr 3 (.tmp 41) (.const (.int .i64 0)) t3 (.int .i64 0)) w fun v42 w =>
  condK v42
  (kV P (Instr.fieldAt 40 v13 12) w fun v44 w =>
  kV P (Instr.loadAt 23 v44) w fun v45 w =>
  kV P (binV .sub 3 (.tmp 47) (.const (.int .i64 1)) t3 (.int .i64 1)) w fun v48 w =>
  kN P (callN (.func (.func 57) #[] #[]) #[t0, v45, v35, v48, t4]) w fun v50 w =>
  kV P (Op.unary .not v50) w fun v51 w =>
  condK v51
  (K (.bool false) w)
  (J4 [] w))
  (kV P (Instr.loadAt 40 v13) w fun v55 w =>
  kN P (callN t4 #[v35, v55]) w fun v56 w =>
  kV P (Op.unary .not v56) w fun v57 w =>
  condK v57
  (K (.bool false) w)
  (J4 [] w)))) fun s4 w => ∀ _ : Nat → Value,
  kV P (binV .add 3 (.tmp 22) (.const (.int .i64 1)) (s2.getD 0 undef) (.int .i64 1)) w fun v58 w =>
  R2 [v58] w)
  (K (.bool true) w)) [(.int .i64 0)] w)) [v15, (.int .i64 0)] w
theorem F57_eq (P : Program) (t0 t1 t2 t3 t4 : Value) (w : World) (K : Value → World → Prop) : funE P ⟨[], [(3, [11, 17]), (7, [22])], [(17, [])]⟩ Try.f57 [t0, t1, t2, t3, t4] w K = F57 P t0 t1 t2 t3 t4 w K := by kernel_rfl
theorem F57_ok (t0 t1 t2 t3 t4 : Value) (w : World) (K : Value → World → Prop) (h : F57 Try.prog t0 t1 t2 t3 t4 w K) : callsK Try.prog 57 #[t0, t1, t2, t3, t4] w K := calls_of_eq mixedP Try.func57 (F57_eq _ t0 t1 t2 t3 t4 w K) h

end Go.Proofs.Ytfpcflmgipklcaa
