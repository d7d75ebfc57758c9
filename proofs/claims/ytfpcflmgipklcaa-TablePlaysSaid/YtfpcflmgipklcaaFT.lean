/- The formulas of functions of this seat, each tied to its calls; conditions: none. -/
import Derived.Test.YtfpcflmgipklcaaProg
import Derived.Test.YtfpcflmgipklcaaFx
import Derived.KernelRfl
namespace Go.Proofs.Ytfpcflmgipklcaa
open Go.Fx
set_option linter.unusedVariables false
set_option linter.constructorNameAsVariable false
set_option maxRecDepth 100000
theorem mixedT : Try.prog.follows .mixedOrders = true := by kernel_rfl
/-- mintmark/mintmarklaw22.TableMoves -/
def F4 (P : Program) (t0 t1 t2 : Value) (w : World) (K : Value → World → Prop) : Prop :=
  kV P (Instr.box 40 t1) w fun v4 w =>
  kV P (Instr.box 40 t2) w fun v5 w =>
  kN P (callN (.func (.func 6) #[] #[]) #[(.int .i64 8)]) w fun v22 w =>
  kV P (Instr.extract v22 0) w fun v23 w =>
  kV P (Instr.extract v22 1) w fun v24 w =>
  kN P (callN (.func (.func 7) #[] #[]) #[(.int .i64 8)]) w fun v26 w =>
  kV P (Instr.extract v26 0) w fun v27 w =>
  kV P (Instr.extract v26 1) w fun v28 w =>
  kN P (callN (.func (.func 8) #[] #[]) #[v23, v27]) w fun v32 w =>
  kV P (Instr.extract v32 0) w fun v33 w =>
  kV P (Instr.extract v32 1) w fun v34 w =>
  kV P (binV .neq 25 (.tmp 35) (.const (.int .i64 0)) v34 (.int .i64 0)) w fun v36 w =>
  joinK (fun J0 : Value → World → Prop => gdK (yb v36) false (fun k => k v33 w) w fun v38 w =>
  gdK (yb v36) false (fun k => kV P (binV .eql 31 (.tmp 38) (.const (.pointer none)) v38 (.pointer none)) w k) w fun v39 w =>
  kN P (pickN v36 (.bool true) v39) w fun v40_1 w =>
  J0 v40_1 w) fun v40 w =>
  condK v40
  (K (.bool false) w)
  (kV P (binV .and 23 (.tmp 41) (.const (.int .u64 274877906943)) t0 (.int .u64 274877906943)) w fun v42 w =>
  kV P (Instr.loadAt 40 v4) w fun v43 w =>
  kN P (callN (.func (.func 23) #[] #[]) #[v43]) w fun v44 w =>
  kV P (Op.unary .not v44) w fun v45 w =>
  joinK (fun J1 : Value → World → Prop => gdK (yb v45) false (fun k => kV P (Instr.loadAt 40 v4) w k) w fun v47 w =>
  gdK (yb v45) false (fun k => kN P (callN (.func (.func 24) #[] #[]) #[v47]) w k) w fun v48 w =>
  gdK (yb v45) false (fun k => kV P (Op.unary .not v48) w k) w fun v49 w =>
  kN P (pickN v45 (.bool true) v49) w fun v50_1 w =>
  J1 v50_1 w) fun v50 w =>
  joinK (fun J2 : Value → World → Prop => gdK (yb v50) false (fun k => kV P (Instr.loadAt 40 v5) w k) w fun v52 w =>
  gdK (yb v50) false (fun k => kN P (callN (.func (.func 23) #[] #[]) #[v52]) w k) w fun v53 w =>
  gdK (yb v50) false (fun k => kV P (Op.unary .not v53) w k) w fun v54 w =>
  kN P (pickN v50 (.bool true) v54) w fun v55_1 w =>
  J2 v55_1 w) fun v55 w =>
  joinK (fun J3 : Value → World → Prop => gdK (yb v55) false (fun k => kV P (Instr.loadAt 40 v5) w k) w fun v57 w =>
  gdK (yb v55) false (fun k => kN P (callN (.func (.func 24) #[] #[]) #[v57]) w k) w fun v58 w =>
  gdK (yb v55) false (fun k => kV P (Op.unary .not v58) w k) w fun v59 w =>
  kN P (pickN v55 (.bool true) v59) w fun v60_1 w =>
  J3 v60_1 w) fun v60 w =>
  condK v60
  (kV P (Instr.build 40 #[]) w fun v63 w =>
  kN P (callN (.func (.func 9) #[] #[]) #[v33, v42, v63]) w fun v64 w =>
  kV P (binV .eql 25 (.tmp 64) (.const (.int .i64 2)) v64 (.int .i64 2)) w fun v65 w =>
  joinK (fun J4 : Value → World → Prop => gdK (yb v65) true (fun k => kN P (callN (.func (.func 22) #[] #[]) #[]) w k) w fun v67 w =>
  kN P (pickN v65 v67 (.bool false)) w fun v68_1 w =>
  J4 v68_1 w) fun v68 w =>
  K v68 w)
  (kV P (Instr.loadAt 40 v4) w fun v71 w =>
  kN P (callN (.func (.func 9) #[] #[]) #[v33, v42, v71]) w fun v72 w =>
  kV P (binV .neq 25 (.tmp 72) (.const (.int .i64 0)) v72 (.int .i64 0)) w fun v73 w =>
  joinK (fun J5 : Value → World → Prop => gdK (yb v73) false (fun k => k v27 w) w fun v75 w =>
  gdK (yb v73) false (fun k => kN P (callN (.func (.func 19) #[] #[]) #[v75]) w k) w fun v76 w =>
  gdK (yb v73) false (fun k => kV P (binV .neq 3 (.tmp 76) (.const (.int .i64 5)) v76 (.int .i64 5)) w k) w fun v77 w =>
  kN P (pickN v73 (.bool true) v77) w fun v78_1 w =>
  J5 v78_1 w) fun v78 w =>
  condK v78
  (K (.bool false) w)
  (kN P (callN (.func (.func 17) #[] #[]) #[v33, v42]) w fun v82 w =>
  kV P (Instr.extract v82 0) w fun v83 w =>
  kV P (Instr.extract v82 1) w fun v84 w =>
  kV P (Instr.alloc 40 true (.tuple #[])) w fun v13 w =>
  kU P (Instr.storeAt 40 v13 v83) w fun _ w =>
  kV P (Instr.loadAt 40 v5) w fun v87 w =>
  kN P (callN (.func (.func 9) #[] #[]) #[v33, v42, v87]) w fun v88 w =>
  kV P (binV .neq 25 (.tmp 88) (.const (.int .i64 0)) v88 (.int .i64 0)) w fun v89 w =>
  joinK (fun J6 : Value → World → Prop => gdK (yb v89) false (fun k => k v27 w) w fun v91 w =>
  gdK (yb v89) false (fun k => kN P (callN (.func (.func 19) #[] #[]) #[v91]) w k) w fun v92 w =>
  gdK (yb v89) false (fun k => kV P (binV .neq 3 (.tmp 92) (.const (.int .i64 5)) v92 (.int .i64 5)) w k) w fun v93 w =>
  kN P (pickN v89 (.bool true) v93) w fun v94_1 w =>
  J6 v94_1 w) fun v94 w =>
  condK v94
  (K (.bool false) w)
  (kN P (callN (.func (.func 17) #[] #[]) #[v33, v42]) w fun v98 w =>
  kV P (Instr.extract v98 0) w fun v99 w =>
  kV P (Instr.extract v98 1) w fun v100 w =>
  kV P (Instr.alloc 40 true (.tuple #[])) w fun v15 w =>
  kU P (Instr.storeAt 40 v15 v99) w fun _ w =>
  kN P (callN (.func (.func 12) #[] #[]) #[v33, v42]) w fun v103 w =>
  kV P (binV .neq 25 (.tmp 103) (.const (.int .i64 0)) v103 (.int .i64 0)) w fun v104 w =>
  joinK (fun J7 : Value → World → Prop => gdK (yb v104) false (fun k => k v27 w) w fun v106 w =>
  gdK (yb v104) false (fun k => kN P (callN (.func (.func 19) #[] #[]) #[v106]) w k) w fun v107 w =>
  gdK (yb v104) false (fun k => kV P (binV .neq 3 (.tmp 107) (.const (.int .i64 5)) v107 (.int .i64 5)) w k) w fun v108 w =>
  kN P (pickN v104 (.bool true) v108) w fun v109_1 w =>
  J7 v109_1 w) fun v109 w =>
  condK v109
  (K (.bool false) w)
  (kN P (callN (.func (.func 17) #[] #[]) #[v33, v42]) w fun v113 w =>
  kV P (Instr.extract v113 0) w fun v114 w =>
  kV P (Instr.extract v113 1) w fun v115 w =>
  kV P (Instr.alloc 40 true (.tuple #[])) w fun v17 w =>
  kU P (Instr.storeAt 40 v17 v114) w fun _ w =>
  kV P (Instr.loadAt 40 v4) w fun v118 w =>
  kN P (callN (.func (.func 9) #[] #[]) #[v33, v42, v118]) w fun v119 w =>
  kV P (binV .neq 25 (.tmp 119) (.const (.int .i64 0)) v119 (.int .i64 0)) w fun v120 w =>
  joinK (fun J8 : Value → World → Prop => gdK (yb v120) false (fun k => k v27 w) w fun v122 w =>
  gdK (yb v120) false (fun k => kN P (callN (.func (.func 19) #[] #[]) #[v122]) w k) w fun v123 w =>
  gdK (yb v120) false (fun k => kV P (binV .neq 3 (.tmp 123) (.const (.int .i64 5)) v123 (.int .i64 5)) w k) w fun v124 w =>
  kN P (pickN v120 (.bool true) v124) w fun v125_1 w =>
  J8 v125_1 w) fun v125 w =>
  condK v125
  (K (.bool false) w)
  (kV P (binV .xor 23 (.tmp 128) (.const (.int .u64 4095)) v42 (.int .u64 4095)) w fun v129 w =>
  kN P (callN (.func (.func 17) #[] #[]) #[v33, v129]) w fun v130 w =>
  kV P (Instr.extract v130 0) w fun v131 w =>
  kV P (Instr.extract v130 1) w fun v132 w =>
  kV P (Instr.alloc 40 true (.tuple #[])) w fun v19 w =>
  kU P (Instr.storeAt 40 v19 v131) w fun _ w =>
  joinK (fun J9 : Value → World → Prop => gdK (yb v84) true (fun k => k v100 w) w fun v135 w =>
  kN P (pickN v84 v135 (.bool false)) w fun v136_1 w =>
  J9 v136_1 w) fun v136 w =>
  joinK (fun J10 : Value → World → Prop => gdK (yb v136) true (fun k => k v115 w) w fun v138 w =>
  gdK (yb v136) true (fun k => kV P (Op.unary .not v138) w k) w fun v139 w =>
  kN P (pickN v136 v139 (.bool false)) w fun v140_1 w =>
  J10 v140_1 w) fun v140 w =>
  joinK (fun J11 : Value → World → Prop => gdK (yb v140) true (fun k => k v132 w) w fun v142 w =>
  kN P (pickN v140 v142 (.bool false)) w fun v143_1 w =>
  J11 v143_1 w) fun v143 w =>
  joinK (fun J12 : Value → World → Prop => gdK (yb v143) true (fun k => kV P (Instr.loadAt 40 v13) w k) w fun v145 w =>
  gdK (yb v143) true (fun k => kV P (Instr.loadAt 40 v4) w k) w fun v146 w =>
  gdK (yb v143) true (fun k => kV P (binV .eql 40 (.tmp 145) (.tmp 146) v145 v146) w k) w fun v147 w =>
  kN P (pickN v143 v147 (.bool false)) w fun v148_1 w =>
  J12 v148_1 w) fun v148 w =>
  joinK (fun J13 : Value → World → Prop => gdK (yb v148) true (fun k => kV P (Instr.loadAt 40 v15) w k) w fun v150 w =>
  gdK (yb v148) true (fun k => kV P (Instr.loadAt 40 v5) w k) w fun v151 w =>
  gdK (yb v148) true (fun k => kV P (binV .eql 40 (.tmp 150) (.tmp 151) v150 v151) w k) w fun v152 w =>
  kN P (pickN v148 v152 (.bool false)) w fun v153_1 w =>
  J13 v153_1 w) fun v153 w =>
  joinK (fun J14 : Value → World → Prop => gdK (yb v153) true (fun k => kV P (Instr.loadAt 40 v19) w k) w fun v155 w =>
  gdK (yb v153) true (fun k => kV P (Instr.loadAt 40 v4) w k) w fun v156 w =>
  gdK (yb v153) true (fun k => kV P (binV .eql 40 (.tmp 155) (.tmp 156) v155 v156) w k) w fun v157 w =>
  kN P (pickN v153 v157 (.bool false)) w fun v158_1 w =>
  J14 v158_1 w) fun v158 w =>
  joinK (fun J15 : Value → World → Prop => gdK (yb v158) true (fun k => kN P (callN (.func (.func 22) #[] #[]) #[]) w k) w fun v160 w =>
  kN P (pickN v158 v160 (.bool false)) w fun v161_1 w =>
  J15 v161_1 w) fun v161 w =>
  K v161 w))))))
theorem F4_eq (P : Program) (t0 t1 t2 : Value) (w : World) (K : Value → World → Prop) : funE P ⟨[], [], []⟩ Try.f4 [t0, t1, t2] w K = F4 P t0 t1 t2 w K := by kernel_rfl
theorem F4_ok (t0 t1 t2 : Value) (w : World) (K : Value → World → Prop) (h : F4 Try.prog t0 t1 t2 w K) : callsK Try.prog 4 #[t0, t1, t2] w K := calls_of_eq mixedT Try.func4 (F4_eq _ t0 t1 t2 w K) h

/-- mintmark/frames.New -/
def F7 (P : Program) (t0 : Value) (w : World) (K : Value → World → Prop) : Prop :=
  kV P (binV .lss 3 (.tmp 4) (.const (.int .i64 1)) t0 (.int .i64 1)) w fun v5 w =>
  joinK (fun J0 : Value → World → Prop => gdK (yb v5) false (fun k => k t0 w) w fun v7 w =>
  gdK (yb v5) false (fun k => kV P (binV .gtr 3 (.tmp 7) (.const (.int .i64 64)) v7 (.int .i64 64)) w k) w fun v8 w =>
  kN P (pickN v5 (.bool true) v8) w fun v9_1 w =>
  J0 v9_1 w) fun v9 w =>
  condK v9
  (K (.tuple #[(.pointer none), (.int .i64 2)]) w)
  (kV P (Instr.build 80 #[(0, t0)]) w fun v11 w =>
  kV P (Instr.build 82 #[(0, v11)]) w fun v12 w =>
  kV P (Instr.box 82 v12) w fun v13 w =>
  K (.tuple #[v13, (.int .i64 0)]) w)
theorem F7_eq (P : Program) (t0 : Value) (w : World) (K : Value → World → Prop) : funE P ⟨[], [], []⟩ Try.f7 [t0] w K = F7 P t0 w K := by kernel_rfl
theorem F7_ok (t0 : Value) (w : World) (K : Value → World → Prop) (h : F7 Try.prog t0 w K) : callsK Try.prog 7 #[t0] w K := calls_of_eq mixedT Try.func7 (F7_eq _ t0 w K) h

/-- mintmark/table.New -/
def F8 (P : Program) (t0 t1 : Value) (w : World) (K : Value → World → Prop) : Prop :=
  kN P (callN (.func (.func 31) #[] #[]) #[t0]) w fun v9 w =>
  kV P (binV .eql 3 (.tmp 9) (.const (.int .i64 0)) v9 (.int .i64 0)) w fun v10 w =>
  condK v10
  (K (.tuple #[(.pointer none), (.int .i64 1)]) w)
  (kN P (callN (.func (.func 32) #[] #[]) #[t0, t1]) w fun v14 w =>
  kV P (Instr.extract v14 0) w fun v15 w =>
  kV P (Instr.extract v14 1) w fun v16 w =>
  kV P (binV .neq 25 (.tmp 17) (.const (.int .i64 0)) v16 (.int .i64 0)) w fun v18 w =>
  condK v18
  (K (.tuple #[(.pointer none), v16]) w)
  (kV P (Instr.buildSlice 38 1 #[(0, v15)]) w fun v23 w =>
  kV P (Instr.build 85 #[(0, t0), (1, t1), (2, v23)]) w fun v24 w =>
  kV P (Instr.box 85 v24) w fun v25 w =>
  K (.tuple #[v25, (.int .i64 0)]) w))
theorem F8_eq (P : Program) (t0 t1 : Value) (w : World) (K : Value → World → Prop) : funE P ⟨[], [], []⟩ Try.f8 [t0, t1] w K = F8 P t0 t1 w K := by kernel_rfl
theorem F8_ok (t0 t1 : Value) (w : World) (K : Value → World → Prop) (h : F8 Try.prog t0 t1 w K) : callsK Try.prog 8 #[t0, t1] w K := calls_of_eq mixedT Try.func8 (F8_eq _ t0 t1 w K) h

/-- (*mintmark/table.Tables).Set -/
def F9 (P : Program) (t0 t1 t2 : Value) (w : World) (K : Value → World → Prop) : Prop :=
  kV P (Instr.box 40 t2) w fun v5 w =>
  kN P (callN (.func (.func 33) #[] #[]) #[t0]) w fun v14 w =>
  condK v14
  (K (.int .i64 1) w)
  (kN P (callN (.func (.func 34) #[] #[]) #[t1]) w fun v17 w =>
  kV P (Op.unary .not v17) w fun v18 w =>
  joinK (fun J0 : Value → World → Prop => gdK (yb v18) false (fun k => kV P (Instr.loadAt 40 v5) w k) w fun v20 w =>
  gdK (yb v18) false (fun k => kN P (callN (.func (.func 23) #[] #[]) #[v20]) w k) w fun v21 w =>
  gdK (yb v18) false (fun k => kV P (Op.unary .not v21) w k) w fun v22 w =>
  kN P (pickN v18 (.bool true) v22) w fun v23_1 w =>
  J0 v23_1 w) fun v23 w =>
  joinK (fun J1 : Value → World → Prop => gdK (yb v23) false (fun k => kV P (Instr.loadAt 40 v5) w k) w fun v25 w =>
  gdK (yb v23) false (fun k => kN P (callN (.func (.func 24) #[] #[]) #[v25]) w k) w fun v26 w =>
  gdK (yb v23) false (fun k => kV P (Op.unary .not v26) w k) w fun v27 w =>
  kN P (pickN v23 (.bool true) v27) w fun v28_1 w =>
  J1 v28_1 w) fun v28 w =>
  condK v28
  (K (.int .i64 2) w)
  (kN P (callN (.func (.func 35) #[] #[]) #[t0, t1]) w fun v32 w =>
  kV P (Instr.extract v32 0) w fun v33 w =>
  kV P (Instr.extract v32 1) w fun v34 w =>
  kV P (Instr.extract v32 2) w fun v35 w =>
  kV P (Op.unary .not v35) w fun v37 w =>
  joinK (fun J2 : Value → World → Prop => gdK (yb v37) true (fun k => k t0 w) w fun v39 w =>
  gdK (yb v37) true (fun k => kN P (nilN v39) w k) w fun v40 w =>
  gdK (yb v37) true (fun k => kV P (Instr.fieldAt 85 v40 1) w k) w fun v41 w =>
  gdK (yb v37) true (fun k => kV P (Instr.loadAt 28 v41) w k) w fun v42 w =>
  gdK (yb v37) true (fun k => kN P (callN (.func (.func 19) #[] #[]) #[v42]) w k) w fun v43 w =>
  gdK (yb v37) true (fun k => k v34 w) w fun v44 w =>
  gdK (yb v37) true (fun k => kV P (binV .lss 3 (.tmp 43) (.tmp 44) v43 v44) w k) w fun v45 w =>
  kN P (pickN v37 v45 (.bool false)) w fun v46_1 w =>
  J2 v46_1 w) fun v46 w =>
  condK v46
  (K (.int .i64 15) w)
  (loopT (fun R3 s3 w => ∀ _ : Nat → Value,
  kV P (Op.unary .not (s3.getD 1 undef)) w fun v48 w =>
  condK v48
  (joinL (fun J5 =>
  drewK (fun w =>
  pN P (nilN t0) fun v51 =>
  pV P (Instr.fieldAt 85 v51 0) fun v52 =>
  pN P (nilN t0) fun v55 =>
  pV P (Instr.fieldAt 85 v55 1) fun v56 =>
  (kV P (Instr.loadAt 24 v52) w fun v53 w =>
  kV P (Instr.loadAt 28 v56) w fun v57 w =>
  kN P (callN (.func (.func 32) #[] #[]) #[v53, v57]) w fun v58 w =>
  pV P (Instr.extract v58 0) fun v59 =>
  pV P (Instr.extract v58 1) fun v60 =>
  J5 [v59, v60] w) ∧
  (kV P (Instr.loadAt 28 v56) w fun v57_1 w =>
  kV P (Instr.loadAt 24 v52) w fun v53_1 w =>
  kN P (callN (.func (.func 32) #[] #[]) #[v53_1, v57_1]) w fun v58_1 w =>
  pV P (Instr.extract v58_1 0) fun v59_1 =>
  pV P (Instr.extract v58_1 1) fun v60_1 =>
  J5 [v59_1, v60_1] w)) w) fun s5 w => ∀ _ : Nat → Value,
  kV P (binV .neq 25 (.tmp 61) (.const (.int .i64 0)) (s5.getD 1 undef) (.int .i64 0)) w fun v62 w =>
  condK v62
  (K (s5.getD 1 undef) w)
  (kN P (nilN t0) w fun v66 w =>
  kV P (Instr.fieldAt 85 v66 2) w fun v67 w =>
  kV P (Instr.loadAt 38 v67) w fun v68 w =>
  kV P (Instr.buildSlice 38 1 #[(0, (s5.getD 0 undef))]) w fun v70 w =>
  kV P (Builtin.append_ #[38, 38] 38 #[v68, v70]) w fun v71 w =>
  kN P (nilN t0) w fun v72 w =>
  kV P (Instr.fieldAt 85 v72 2) w fun v73 w =>
  kU P (Instr.storeAt 38 v73 v71) w fun _ w =>
  joinL (fun J7 =>
  drewK (fun w =>
  pN P (nilN t0) fun v75 =>
  pV P (Instr.fieldAt 85 v75 0) fun v76 =>
  pV P (convert 3 23 (s5.getD 0 undef)) fun v80 =>
  pV P (Instr.build 40 #[(0, (.bool true)), (12, v80)]) fun v81 =>
  (kV P (Instr.loadAt 24 v76) w fun v77 w =>
  kN P (callN (.func (.func 26) #[] #[]) #[v81]) w fun v82 w =>
  kN P (callN (.func (.func 36) #[] #[]) #[v77, (s3.getD 0 undef), (.int .i64 8), v82]) w fun v83 w =>
  J7 [] w) ∧
  (kN P (callN (.func (.func 26) #[] #[]) #[v81]) w fun v82_1 w =>
  kV P (Instr.loadAt 24 v76) w fun v77_1 w =>
  kN P (callN (.func (.func 36) #[] #[]) #[v77_1, (s3.getD 0 undef), (.int .i64 8), v82_1]) w fun v83_1 w =>
  J7 [] w)) w) fun s7 w => ∀ _ : Nat → Value,
  kN P (callN (.func (.func 35) #[] #[]) #[t0, t1]) w fun v87 w =>
  kV P (Instr.extract v87 0) w fun v88 w =>
  kV P (Instr.extract v87 1) w fun v89 w =>
  kV P (Instr.extract v87 2) w fun v90 w =>
  R3 [v88, v90] w))
  (drewK (fun w =>
  pN P (nilN t0) fun v92 =>
  pV P (Instr.fieldAt 85 v92 0) fun v93 =>
  (kV P (Instr.loadAt 24 v93) w fun v94 w =>
  kV P (Instr.loadAt 40 v5) w fun v96 w =>
  kN P (callN (.func (.func 26) #[] #[]) #[v96]) w fun v97 w =>
  kN P (callN (.func (.func 36) #[] #[]) #[v94, (s3.getD 0 undef), (.int .i64 8), v97]) w fun v98 w =>
  K v98 w) ∧
  (kV P (Instr.loadAt 40 v5) w fun v96_1 w =>
  (kV P (Instr.loadAt 24 v93) w fun v94_1 w =>
  kN P (callN (.func (.func 26) #[] #[]) #[v96_1]) w fun v97_1 w =>
  kN P (callN (.func (.func 36) #[] #[]) #[v94_1, (s3.getD 0 undef), (.int .i64 8), v97_1]) w fun v98_1 w =>
  K v98_1 w) ∧
  (kN P (callN (.func (.func 26) #[] #[]) #[v96_1]) w fun v97_2 w =>
  kV P (Instr.loadAt 24 v93) w fun v94_2 w =>
  kN P (callN (.func (.func 36) #[] #[]) #[v94_2, (s3.getD 0 undef), (.int .i64 8), v97_2]) w fun v98_2 w =>
  K v98_2 w))) w)) [v33, v35] w)))
theorem F9_eq (P : Program) (t0 t1 t2 : Value) (w : World) (K : Value → World → Prop) : funE P ⟨[(15, 999), (9, 999), (13, 999)], [(8, [7, 9])], [(10, [10, 11]), (14, [])]⟩ Try.f9 [t0, t1, t2] w K = F9 P t0 t1 t2 w K := by kernel_rfl
theorem F9_ok (t0 t1 t2 : Value) (w : World) (K : Value → World → Prop) (h : F9 Try.prog t0 t1 t2 w K) : callsK Try.prog 9 #[t0, t1, t2] w K := calls_of_eq mixedT Try.func9 (F9_eq _ t0 t1 t2 w K) h

/-- (*mintmark/table.Tables).Clear -/
def F12 (P : Program) (t0 t1 : Value) (w : World) (K : Value → World → Prop) : Prop :=
  kN P (callN (.func (.func 33) #[] #[]) #[t0]) w fun v10 w =>
  condK v10
  (K (.int .i64 1) w)
  (kN P (callN (.func (.func 34) #[] #[]) #[t1]) w fun v13 w =>
  kV P (Op.unary .not v13) w fun v14 w =>
  condK v14
  (K (.int .i64 2) w)
  (kN P (callN (.func (.func 35) #[] #[]) #[t0, t1]) w fun v18 w =>
  kV P (Instr.extract v18 0) w fun v19 w =>
  kV P (Instr.extract v18 1) w fun v20 w =>
  kV P (Instr.extract v18 2) w fun v21 w =>
  kV P (Op.unary .not v21) w fun v23 w =>
  condK v23
  (K (.int .i64 0) w)
  (kN P (nilN t0) w fun v25 w =>
  kV P (Instr.fieldAt 85 v25 0) w fun v26 w =>
  kV P (Instr.loadAt 24 v26) w fun v27 w =>
  kN P (callN (.func (.func 36) #[] #[]) #[v27, v19, (.int .i64 8), (.int .u64 0)]) w fun v29 w =>
  K v29 w)))
theorem F12_eq (P : Program) (t0 t1 : Value) (w : World) (K : Value → World → Prop) : funE P ⟨[], [], []⟩ Try.f12 [t0, t1] w K = F12 P t0 t1 w K := by kernel_rfl
theorem F12_ok (t0 t1 : Value) (w : World) (K : Value → World → Prop) (h : F12 Try.prog t0 t1 w K) : callsK Try.prog 12 #[t0, t1] w K := calls_of_eq mixedT Try.func12 (F12_eq _ t0 t1 w K) h

/-- (*mintmark/frames.Pool).Take -/
def F14 (P : Program) (t0 : Value) (w : World) (K : Value → World → Prop) : Prop :=
  kN P (callN (.func (.func 40) #[] #[]) #[t0]) w fun v6 w =>
  condK v6
  (K (.tuple #[(.int .i64 0), (.int .i64 1)]) w)
  (kN P (nilN t0) w fun v8 w =>
  kV P (Instr.fieldAt 82 v8 0) w fun v9 w =>
  kV P (Instr.loadAt 80 v9) w fun v10 w =>
  kN P (callN (.func (.func 42) #[] #[]) #[v10]) w fun v11 w =>
  kN P (callN (.func (.func 41) #[] #[]) #[v11]) w fun v12 w =>
  kV P (binV .eql 3 (.tmp 13) (.const (.int .i64 64)) v12 (.int .i64 64)) w fun v14 w =>
  condK v14
  (K (.tuple #[(.int .i64 0), (.int .i64 15)]) w)
  (drewK (fun w =>
  sN P (nilN t0) w fun v16 =>
  sV P (Instr.fieldAt 82 v16 0) w fun v17 =>
  sV P (Instr.fieldAt 80 v17 1) w fun v18 =>
  sV P (Instr.loadAt 23 v18) w fun v19 =>
  sV P (binV .shl 23 (.const (.int .u64 1)) (.tmp 20) (.int .u64 1) v12) w fun v21 =>
  kV P (binV .or 23 (.tmp 19) (.tmp 21) v19 v21) w fun v22 w =>
  kN P (nilN t0) w fun v23 w =>
  kV P (Instr.fieldAt 82 v23 0) w fun v24 w =>
  kV P (Instr.fieldAt 80 v24 1) w fun v25 w =>
  kU P (Instr.storeAt 23 v25 v22) w fun _ w =>
  K (.tuple #[v12, (.int .i64 0)]) w) w))
theorem F14_eq (P : Program) (t0 : Value) (w : World) (K : Value → World → Prop) : funE P ⟨[(6, 7)], [], []⟩ Try.f14 [t0] w K = F14 P t0 w K := by kernel_rfl
theorem F14_ok (t0 : Value) (w : World) (K : Value → World → Prop) (h : F14 Try.prog t0 w K) : callsK Try.prog 14 #[t0] w K := calls_of_eq mixedT Try.func14 (F14_eq _ t0 w K) h

/-- (*mintmark/frames.Pool).Give -/
def F15 (P : Program) (t0 t1 : Value) (w : World) (K : Value → World → Prop) : Prop :=
  kN P (callN (.func (.func 40) #[] #[]) #[t0]) w fun v7 w =>
  condK v7
  (K (.int .i64 1) w)
  (kV P (binV .lss 3 (.tmp 9) (.const (.int .i64 0)) t1 (.int .i64 0)) w fun v10 w =>
  joinK (fun J0 : Value → World → Prop => gdK (yb v10) false (fun k => k t1 w) w fun v12 w =>
  gdK (yb v10) false (fun k => k t0 w) w fun v13 w =>
  gdK (yb v10) false (fun k => kN P (nilN v13) w k) w fun v14 w =>
  gdK (yb v10) false (fun k => kV P (Instr.fieldAt 82 v14 0) w k) w fun v15 w =>
  gdK (yb v10) false (fun k => kV P (Instr.fieldAt 80 v15 0) w k) w fun v16 w =>
  gdK (yb v10) false (fun k => kV P (Instr.loadAt 3 v16) w k) w fun v17 w =>
  gdK (yb v10) false (fun k => kV P (binV .geq 3 (.tmp 12) (.tmp 17) v12 v17) w k) w fun v18 w =>
  kN P (pickN v10 (.bool true) v18) w fun v19_1 w =>
  J0 v19_1 w) fun v19 w =>
  condK v19
  (K (.int .i64 2) w)
  (kN P (callN (.func (.func 43) #[] #[]) #[t0, t1]) w fun v23 w =>
  kV P (Op.unary .not v23) w fun v24 w =>
  condK v24
  (K (.int .i64 13) w)
  (drewK (fun w =>
  sN P (nilN t0) w fun v26 =>
  sV P (Instr.fieldAt 82 v26 0) w fun v27 =>
  sV P (Instr.fieldAt 80 v27 1) w fun v28 =>
  sV P (Instr.loadAt 23 v28) w fun v29 =>
  sV P (binV .shl 23 (.const (.int .u64 1)) (.tmp 30) (.int .u64 1) t1) w fun v31 =>
  kV P (binV .andNot 23 (.tmp 29) (.tmp 31) v29 v31) w fun v32 w =>
  kN P (nilN t0) w fun v33 w =>
  kV P (Instr.fieldAt 82 v33 0) w fun v34 w =>
  kV P (Instr.fieldAt 80 v34 1) w fun v35 w =>
  kU P (Instr.storeAt 23 v35 v32) w fun _ w =>
  K (.int .i64 0) w) w)))
theorem F15_eq (P : Program) (t0 t1 : Value) (w : World) (K : Value → World → Prop) : funE P ⟨[(7, 7)], [], []⟩ Try.f15 [t0, t1] w K = F15 P t0 t1 w K := by kernel_rfl
theorem F15_ok (t0 t1 : Value) (w : World) (K : Value → World → Prop) (h : F15 Try.prog t0 t1 w K) : callsK Try.prog 15 #[t0, t1] w K := calls_of_eq mixedT Try.func15 (F15_eq _ t0 t1 w K) h

/-- (*mintmark/table.Tables).Get -/
def F17 (P : Program) (t0 t1 : Value) (w : World) (K : Value → World → Prop) : Prop :=
  kV P (Instr.alloc 40 true (.tuple #[])) w fun v4 w =>
  kN P (callN (.func (.func 33) #[] #[]) #[t0]) w fun v11 w =>
  joinK (fun J0 : Value → World → Prop => gdK (yb v11) false (fun k => k t1 w) w fun v13 w =>
  gdK (yb v11) false (fun k => kN P (callN (.func (.func 34) #[] #[]) #[v13]) w k) w fun v14 w =>
  gdK (yb v11) false (fun k => kV P (Op.unary .not v14) w k) w fun v15 w =>
  kN P (pickN v11 (.bool true) v15) w fun v16_1 w =>
  J0 v16_1 w) fun v16 w =>
  condK v16
  (kV P (Instr.build 40 #[]) w fun v17 w =>
  kU P (Instr.storeAt 40 v4 v17) w fun _ w =>
  retV P 40 v4 w fun r1 =>
  K (.tuple #[r1, (.bool false)]) w)
  (kN P (callN (.func (.func 35) #[] #[]) #[t0, t1]) w fun v21 w =>
  kV P (Instr.extract v21 0) w fun v22 w =>
  kV P (Instr.extract v21 1) w fun v23 w =>
  kV P (Instr.extract v21 2) w fun v24 w =>
  kV P (Op.unary .not v24) w fun v26 w =>
  condK v26
  (kV P (Instr.build 40 #[]) w fun v27 w =>
  kU P (Instr.storeAt 40 v4 v27) w fun _ w =>
  retV P 40 v4 w fun r2 =>
  K (.tuple #[r2, (.bool false)]) w)
  (kN P (callN (.func (.func 44) #[] #[]) #[t0, v22]) w fun v30 w =>
  kV P (Instr.alloc 40 true (.tuple #[])) w fun v9 w =>
  kU P (Instr.storeAt 40 v9 v30) w fun _ w =>
  kV P (Instr.loadAt 40 v9) w fun v31 w =>
  kN P (callN (.func (.func 23) #[] #[]) #[v31]) w fun v32 w =>
  kV P (Op.unary .not v32) w fun v33 w =>
  condK v33
  (kV P (Instr.build 40 #[]) w fun v34 w =>
  kU P (Instr.storeAt 40 v4 v34) w fun _ w =>
  retV P 40 v4 w fun r3 =>
  K (.tuple #[r3, (.bool false)]) w)
  (kV P (Instr.loadAt 40 v9) w fun v35 w =>
  kU P (Instr.storeAt 40 v4 v35) w fun _ w =>
  retV P 40 v4 w fun r4 =>
  K (.tuple #[r4, (.bool true)]) w)))
theorem F17_eq (P : Program) (t0 t1 : Value) (w : World) (K : Value → World → Prop) : funE P ⟨[], [], []⟩ Try.f17 [t0, t1] w K = F17 P t0 t1 w K := by kernel_rfl
theorem F17_ok (t0 t1 : Value) (w : World) (K : Value → World → Prop) (h : F17 Try.prog t0 t1 w K) : callsK Try.prog 17 #[t0, t1] w K := calls_of_eq mixedT Try.func17 (F17_eq _ t0 t1 w K) h

/-- (*mintmark/table.Tables).Frames -/
def F18 (P : Program) (t0 : Value) (w : World) (K : Value → World → Prop) : Prop :=
  kN P (callN (.func (.func 33) #[] #[]) #[t0]) w fun v4 w =>
  condK v4
  (K (.slice none 0 0) w)
  (kN P (nilN t0) w fun v6 w =>
  kV P (Instr.fieldAt 85 v6 2) w fun v7 w =>
  kV P (Instr.loadAt 38 v7) w fun v8 w =>
  kN P (callN (.func (.func 46) #[] #[]) #[v8]) w fun v9 w =>
  kN P (callN (.func (.func 45) #[] #[]) #[v9]) w fun v10 w =>
  K v10 w)
theorem F18_eq (P : Program) (t0 : Value) (w : World) (K : Value → World → Prop) : funE P ⟨[], [], []⟩ Try.f18 [t0] w K = F18 P t0 w K := by kernel_rfl
theorem F18_ok (t0 : Value) (w : World) (K : Value → World → Prop) (h : F18 Try.prog t0 w K) : callsK Try.prog 18 #[t0] w K := calls_of_eq mixedT Try.func18 (F18_eq _ t0 w K) h

/-- (*mintmark/frames.Pool).Free -/
def F19 (P : Program) (t0 : Value) (w : World) (K : Value → World → Prop) : Prop :=
  kN P (callN (.func (.func 40) #[] #[]) #[t0]) w fun v4 w =>
  condK v4
  (K (.int .i64 0) w)
  (drewK (fun w =>
  pN P (nilN t0) fun v6 =>
  pV P (Instr.fieldAt 82 v6 0) fun v7 =>
  pV P (Instr.fieldAt 80 v7 0) fun v8 =>
  (kV P (Instr.loadAt 3 v8) w fun v9 w =>
  kN P (callN (.func (.func 47) #[] #[]) #[t0]) w fun v11 w =>
  pV P (Builtin.len_ #[38] 3 #[v11]) fun v12 =>
  pV P (binV .sub 3 (.tmp 9) (.tmp 12) v9 v12) fun v13 =>
  K v13 w) ∧
  (kN P (callN (.func (.func 47) #[] #[]) #[t0]) w fun v11_1 w =>
  pV P (Builtin.len_ #[38] 3 #[v11_1]) fun v12_1 =>
  kV P (Instr.loadAt 3 v8) w fun v9_1 w =>
  pV P (binV .sub 3 (.tmp 9) (.tmp 12) v9_1 v12_1) fun v13_1 =>
  K v13_1 w)) w)
theorem F19_eq (P : Program) (t0 : Value) (w : World) (K : Value → World → Prop) : funE P ⟨[(3, 999)], [], []⟩ Try.f19 [t0] w K = F19 P t0 w K := by kernel_rfl
theorem F19_ok (t0 : Value) (w : World) (K : Value → World → Prop) (h : F19 Try.prog t0 w K) : callsK Try.prog 19 #[t0] w K := calls_of_eq mixedT Try.func19 (F19_eq _ t0 w K) h

/-- (*mintmark/table.Tables).Root -/
def F21 (P : Program) (t0 : Value) (w : World) (K : Value → World → Prop) : Prop :=
  kN P (callN (.func (.func 33) #[] #[]) #[t0]) w fun v4 w =>
  condK v4
  (K (.int .u64 0) w)
  (kN P (nilN t0) w fun v6 w =>
  kV P (Instr.fieldAt 85 v6 2) w fun v7 w =>
  kV P (Instr.loadAt 38 v7) w fun v8 w =>
  kV P (Instr.indexAt 38 v8 (.int .i64 0)) w fun v9 w =>
  kV P (Instr.loadAt 3 v9) w fun v10 w =>
  kV P (convert 3 23 v10) w fun v11 w =>
  K v11 w)
theorem F21_eq (P : Program) (t0 : Value) (w : World) (K : Value → World → Prop) : funE P ⟨[], [], []⟩ Try.f21 [t0] w K = F21 P t0 w K := by kernel_rfl
theorem F21_ok (t0 : Value) (w : World) (K : Value → World → Prop) (h : F21 Try.prog t0 w K) : callsK Try.prog 21 #[t0] w K := calls_of_eq mixedT Try.func21 (F21_eq _ t0 w K) h

/-- mintmark/mintmarklaw22.one -/
def F22 (P : Program) (w : World) (K : Value → World → Prop) : Prop :=
  kN P (callN (.func (.func 6) #[] #[]) #[(.int .i64 8)]) w fun v10 w =>
  kV P (Instr.extract v10 0) w fun v11 w =>
  kV P (Instr.extract v10 1) w fun v12 w =>
  kN P (callN (.func (.func 7) #[] #[]) #[(.int .i64 8)]) w fun v14 w =>
  kV P (Instr.extract v14 0) w fun v15 w =>
  kV P (Instr.extract v14 1) w fun v16 w =>
  kN P (callN (.func (.func 8) #[] #[]) #[v11, v15]) w fun v20 w =>
  kV P (Instr.extract v20 0) w fun v21 w =>
  kV P (Instr.extract v20 1) w fun v22 w =>
  kV P (binV .neq 25 (.tmp 23) (.const (.int .i64 0)) v22 (.int .i64 0)) w fun v24 w =>
  joinK (fun J0 : Value → World → Prop => gdK (yb v24) false (fun k => k v21 w) w fun v26 w =>
  gdK (yb v24) false (fun k => kV P (binV .eql 31 (.tmp 26) (.const (.pointer none)) v26 (.pointer none)) w k) w fun v27 w =>
  kN P (pickN v24 (.bool true) v27) w fun v28_1 w =>
  J0 v28_1 w) fun v28 w =>
  joinK (fun J1 : Value → World → Prop => gdK (yb v28) false (fun k => k v11 w) w fun v30 w =>
  gdK (yb v28) false (fun k => kV P (binV .eql 24 (.tmp 30) (.const (.pointer none)) v30 (.pointer none)) w k) w fun v31 w =>
  kN P (pickN v28 (.bool true) v31) w fun v32_1 w =>
  J1 v32_1 w) fun v32 w =>
  joinK (fun J2 : Value → World → Prop => gdK (yb v32) false (fun k => k v15 w) w fun v34 w =>
  gdK (yb v32) false (fun k => kV P (binV .eql 28 (.tmp 34) (.const (.pointer none)) v34 (.pointer none)) w k) w fun v35 w =>
  kN P (pickN v32 (.bool true) v35) w fun v36_1 w =>
  J2 v36_1 w) fun v36 w =>
  condK v36
  (K (.bool false) w)
  (kV P (Instr.build 40 #[(0, (.bool true)), (1, (.bool true)), (12, (.int .u64 7))]) w fun v38 w =>
  kN P (callN (.func (.func 9) #[] #[]) #[v21, (.int .u64 4096), v38]) w fun v39 w =>
  kN P (callN (.func (.func 21) #[] #[]) #[v21]) w fun v43 w =>
  kN P (callN (.func (.func 20) #[] #[]) #[v11, v43, (.int .u64 4100)]) w fun v44 w =>
  kV P (Instr.extract v44 0) w fun v45 w =>
  kV P (Instr.extract v44 1) w fun v46 w =>
  kV P (Instr.alloc 59 true (.tuple #[])) w fun v7 w =>
  kU P (Instr.storeAt 59 v7 v45) w fun _ w =>
  kV P (binV .eql 3 (.tmp 47) (.const (.int .i64 0)) v46 (.int .i64 0)) w fun v48 w =>
  joinK (fun J3 : Value → World → Prop => gdK (yb v48) true (fun k => kV P (Instr.fieldAt 59 v7 0) w k) w fun v50 w =>
  gdK (yb v48) true (fun k => kV P (Instr.fieldAt 40 v50 12) w k) w fun v51 w =>
  gdK (yb v48) true (fun k => kV P (Instr.loadAt 23 v51) w k) w fun v52 w =>
  gdK (yb v48) true (fun k => kV P (binV .eql 23 (.tmp 52) (.const (.int .u64 7)) v52 (.int .u64 7)) w k) w fun v53 w =>
  kN P (pickN v48 v53 (.bool false)) w fun v54_1 w =>
  J3 v54_1 w) fun v54 w =>
  joinK (fun J4 : Value → World → Prop => gdK (yb v54) true (fun k => k v21 w) w fun v56 w =>
  gdK (yb v54) true (fun k => kN P (callN (.func (.func 18) #[] #[]) #[v56]) w k) w fun v57 w =>
  gdK (yb v54) true (fun k => kV P (Builtin.len_ #[38] 3 #[v57]) w k) w fun v58 w =>
  gdK (yb v54) true (fun k => kV P (binV .eql 3 (.tmp 58) (.const (.int .i64 3)) v58 (.int .i64 3)) w k) w fun v59 w =>
  kN P (pickN v54 v59 (.bool false)) w fun v60_1 w =>
  J4 v60_1 w) fun v60 w =>
  joinK (fun J5 : Value → World → Prop => gdK (yb v60) true (fun k => k v15 w) w fun v62 w =>
  gdK (yb v60) true (fun k => kN P (callN (.func (.func 19) #[] #[]) #[v62]) w k) w fun v63 w =>
  gdK (yb v60) true (fun k => kV P (binV .eql 3 (.tmp 63) (.const (.int .i64 5)) v63 (.int .i64 5)) w k) w fun v64 w =>
  kN P (pickN v60 v64 (.bool false)) w fun v65_1 w =>
  J5 v65_1 w) fun v65 w =>
  K v65 w)
theorem F22_eq (P : Program) (w : World) (K : Value → World → Prop) : funE P ⟨[], [], []⟩ Try.f22 [] w K = F22 P  w K := by kernel_rfl
theorem F22_ok (w : World) (K : Value → World → Prop) (h : F22 Try.prog  w K) : callsK Try.prog 22 #[] w K := calls_of_eq mixedT Try.func22 (F22_eq _  w K) h

/-- (*mintmark/table.Tables).Destroy -/
def F30 (P : Program) (t0 : Value) (w : World) (K : Value → World → Prop) : Prop :=
  kN P (callN (.func (.func 33) #[] #[]) #[t0]) w fun v6 w =>
  condK v6
  (K (.int .i64 1) w)
  (kN P (nilN t0) w fun v8 w =>
  kV P (Instr.fieldAt 85 v8 2) w fun v9 w =>
  kV P (Instr.loadAt 38 v9) w fun v10 w =>
  kV P (Builtin.len_ #[38] 3 #[v10]) w fun v11 w =>
  loopT (fun R0 s0 w => ∀ _ : Nat → Value,
  kV P (binV .lss 3 (.tmp 12) (.tmp 11) (s0.getD 0 undef) v11) w fun v13 w =>
  condK v13
  (kV P (Instr.indexAt 38 v10 (s0.getD 0 undef)) w fun v14 w =>
  kV P (Instr.loadAt 3 v14) w fun v15 w =>
  kN P (nilN t0) w fun v17 w =>
  kV P (Instr.fieldAt 85 v17 1) w fun v18 w =>
  kV P (Instr.loadAt 28 v18) w fun v19 w =>
  kN P (callN (.func (.func 15) #[] #[]) #[v19, v15]) w fun v21 w =>
  kV P (binV .add 3 (.tmp 12) (.const (.int .i64 1)) (s0.getD 0 undef) (.int .i64 1)) w fun v22 w =>
  R0 [v22] w)
  (kN P (nilN t0) w fun v24 w =>
  kV P (Instr.fieldAt 85 v24 2) w fun v25 w =>
  kU P (Instr.storeAt 38 v25 (.slice none 0 0)) w fun _ w =>
  K (.int .i64 0) w)) [(.int .i64 0)] w)
theorem F30_eq (P : Program) (t0 : Value) (w : World) (K : Value → World → Prop) : funE P ⟨[], [(4, [12])], []⟩ Try.f30 [t0] w K = F30 P t0 w K := by kernel_rfl
theorem F30_ok (t0 : Value) (w : World) (K : Value → World → Prop) (h : F30 Try.prog t0 w K) : callsK Try.prog 30 #[t0] w K := calls_of_eq mixedT Try.func30 (F30_eq _ t0 w K) h

/-- mintmark/table.taken -/
def F32 (P : Program) (t0 t1 : Value) (w : World) (K : Value → World → Prop) : Prop :=
  kN P (callN (.func (.func 14) #[] #[]) #[t1]) w fun v10 w =>
  kV P (Instr.extract v10 0) w fun v11 w =>
  kV P (Instr.extract v10 1) w fun v12 w =>
  kV P (binV .neq 25 (.tmp 13) (.const (.int .i64 0)) v12 (.int .i64 0)) w fun v14 w =>
  condK v14
  (K (.tuple #[(.int .i64 0), v12]) w)
  (joinL (fun J0 =>
  kN P (callN (.func (.func 59) #[] #[]) #[t0, v11]) w fun v18 w =>
  kV P (binV .neq 25 (.tmp 19) (.const (.int .i64 0)) v18 (.int .i64 0)) w fun v20 w =>
  condK v20
  (kN P (callN (.func (.func 15) #[] #[]) #[t1, v11]) w fun v23 w =>
  J0 [v18] w)
  (J0 [v18] w)) fun s0 w => ∀ _ : Nat → Value,
  K (.tuple #[v11, (s0.getD 0 undef)]) w)
theorem F32_eq (P : Program) (t0 t1 : Value) (w : World) (K : Value → World → Prop) : funE P ⟨[], [], [(7, [7])]⟩ Try.f32 [t0, t1] w K = F32 P t0 t1 w K := by kernel_rfl
theorem F32_ok (t0 t1 : Value) (w : World) (K : Value → World → Prop) (h : F32 Try.prog t0 t1 w K) : callsK Try.prog 32 #[t0, t1] w K := calls_of_eq mixedT Try.func32 (F32_eq _ t0 t1 w K) h

/-- (*mintmark/table.Tables).none -/
def F33 (P : Program) (t0 : Value) (w : World) (K : Value → World → Prop) : Prop :=
  kV P (binV .eql 31 (.tmp 3) (.const (.pointer none)) t0 (.pointer none)) w fun v4 w =>
  joinK (fun J0 : Value → World → Prop => gdK (yb v4) false (fun k => k t0 w) w fun v6 w =>
  gdK (yb v4) false (fun k => kN P (nilN v6) w k) w fun v7 w =>
  gdK (yb v4) false (fun k => kV P (Instr.fieldAt 85 v7 2) w k) w fun v8 w =>
  gdK (yb v4) false (fun k => kV P (Instr.loadAt 38 v8) w k) w fun v9 w =>
  gdK (yb v4) false (fun k => kV P (Builtin.len_ #[38] 3 #[v9]) w k) w fun v10 w =>
  gdK (yb v4) false (fun k => kV P (binV .eql 3 (.tmp 10) (.const (.int .i64 0)) v10 (.int .i64 0)) w k) w fun v11 w =>
  kN P (pickN v4 (.bool true) v11) w fun v12_1 w =>
  J0 v12_1 w) fun v12 w =>
  K v12 w
theorem F33_eq (P : Program) (t0 : Value) (w : World) (K : Value → World → Prop) : funE P ⟨[], [], []⟩ Try.f33 [t0] w K = F33 P t0 w K := by kernel_rfl
theorem F33_ok (t0 : Value) (w : World) (K : Value → World → Prop) (h : F33 Try.prog t0 w K) : callsK Try.prog 33 #[t0] w K := calls_of_eq mixedT Try.func33 (F33_eq _ t0 w K) h

/-- (*mintmark/table.Tables).lowest -/
def F35 (P : Program) (t0 t1 : Value) (w : World) (K : Value → World → Prop) : Prop :=
  kN P (nilN t0) w fun v10 w =>
  kV P (Instr.fieldAt 85 v10 2) w fun v11 w =>
  kV P (Instr.loadAt 38 v11) w fun v12 w =>
  kV P (Instr.indexAt 38 v12 (.int .i64 0)) w fun v13 w =>
  kV P (Instr.loadAt 3 v13) w fun v14 w =>
  kV P (convert 3 23 v14) w fun v15 w =>
  loopT (fun R0 s0 w => ∀ _ : Nat → Value,
  kN P (callN (.func (.func 49) #[] #[]) #[t1, (s0.getD 0 undef)]) w fun v21 w =>
  kN P (callN (.func (.func 60) #[] #[]) #[(s0.getD 1 undef), v21]) w fun v22 w =>
  kV P (binV .eql 3 (.tmp 23) (.const (.int .i64 0)) (s0.getD 0 undef) (.int .i64 0)) w fun v24 w =>
  condK v24
  (K (.tuple #[v22, (s0.getD 0 undef), (.bool true)]) w)
  (kN P (callN (.func (.func 44) #[] #[]) #[t0, v22]) w fun v29 w =>
  kV P (Instr.alloc 40 true (.tuple #[])) w fun v8 w =>
  kU P (Instr.storeAt 40 v8 v29) w fun _ w =>
  kV P (Instr.fieldAt 40 v8 0) w fun v30 w =>
  kV P (Instr.loadAt 4 v30) w fun v31 w =>
  kV P (Op.unary .not v31) w fun v32 w =>
  condK v32
  (K (.tuple #[v22, (s0.getD 0 undef), (.bool false)]) w)
  (kV P (Instr.fieldAt 40 v8 12) w fun v35 w =>
  kV P (Instr.loadAt 23 v35) w fun v36 w =>
  kV P (binV .sub 3 (.tmp 16) (.const (.int .i64 1)) (s0.getD 0 undef) (.int .i64 1)) w fun v17 w =>
  R0 [v17, v36] w))) [(.int .i64 2), v15] w
theorem F35_eq (P : Program) (t0 t1 : Value) (w : World) (K : Value → World → Prop) : funE P ⟨[], [(4, [5, 7])], []⟩ Try.f35 [t0, t1] w K = F35 P t0 t1 w K := by kernel_rfl
theorem F35_ok (t0 t1 : Value) (w : World) (K : Value → World → Prop) (h : F35 Try.prog t0 t1 w K) : callsK Try.prog 35 #[t0, t1] w K := calls_of_eq mixedT Try.func35 (F35_eq _ t0 t1 w K) h

/-- (*mintmark/frames.Pool).none -/
def F40 (P : Program) (t0 : Value) (w : World) (K : Value → World → Prop) : Prop :=
  kV P (binV .eql 28 (.tmp 3) (.const (.pointer none)) t0 (.pointer none)) w fun v4 w =>
  joinK (fun J0 : Value → World → Prop => gdK (yb v4) false (fun k => k t0 w) w fun v6 w =>
  gdK (yb v4) false (fun k => kN P (nilN v6) w k) w fun v7 w =>
  gdK (yb v4) false (fun k => kV P (Instr.fieldAt 82 v7 0) w k) w fun v8 w =>
  gdK (yb v4) false (fun k => kV P (Instr.loadAt 80 v8) w k) w fun v9 w =>
  gdK (yb v4) false (fun k => kV P (Instr.build 80 #[]) w k) w fun v10 w =>
  gdK (yb v4) false (fun k => kV P (binV .eql 80 (.tmp 9) (.tmp 10) v9 v10) w k) w fun v11 w =>
  kN P (pickN v4 (.bool true) v11) w fun v12_1 w =>
  J0 v12_1 w) fun v12 w =>
  K v12 w
theorem F40_eq (P : Program) (t0 : Value) (w : World) (K : Value → World → Prop) : funE P ⟨[], [], []⟩ Try.f40 [t0] w K = F40 P t0 w K := by kernel_rfl
theorem F40_ok (t0 : Value) (w : World) (K : Value → World → Prop) (h : F40 Try.prog t0 w K) : callsK Try.prog 40 #[t0] w K := calls_of_eq mixedT Try.func40 (F40_eq _ t0 w K) h

/-- (mintmark/frames.state).open -/
def F42 (P : Program) (t0 : Value) (w : World) (K : Value → World → Prop) : Prop :=
  kV P (Instr.box 80 t0) w fun v1 w =>
  drewK (fun w =>
  sV P (Instr.fieldAt 80 v1 1) w fun v3 =>
  sV P (Instr.loadAt 23 v3) w fun v4 =>
  sV P (Op.unary .xor v4) w fun v5 =>
  sV P (Instr.fieldAt 80 v1 0) w fun v6 =>
  sV P (Instr.loadAt 3 v6) w fun v7 =>
  sV P (binV .sub 3 (.tmp 7) (.const (.int .i64 1)) v7 (.int .i64 1)) w fun v8 =>
  sV P (binV .shl 23 (.const (.int .u64 1)) (.tmp 8) (.int .u64 1) v8) w fun v9 =>
  sV P (binV .shl 23 (.tmp 9) (.const (.int .u64 1)) v9 (.int .u64 1)) w fun v10 =>
  sV P (binV .sub 23 (.tmp 10) (.const (.int .u64 1)) v10 (.int .u64 1)) w fun v11 =>
  sV P (binV .and 23 (.tmp 5) (.tmp 11) v5 v11) w fun v12 =>
  K v12 w) w
theorem F42_eq (P : Program) (t0 : Value) (w : World) (K : Value → World → Prop) : funE P ⟨[], [], []⟩ Try.f42 [t0] w K = F42 P t0 w K := by kernel_rfl
theorem F42_ok (t0 : Value) (w : World) (K : Value → World → Prop) (h : F42 Try.prog t0 w K) : callsK Try.prog 42 #[t0] w K := calls_of_eq mixedT Try.func42 (F42_eq _ t0 w K) h

/-- (*mintmark/frames.Pool).Taken -/
def F43 (P : Program) (t0 t1 : Value) (w : World) (K : Value → World → Prop) : Prop :=
  kN P (callN (.func (.func 40) #[] #[]) #[t0]) w fun v6 w =>
  kV P (Op.unary .not v6) w fun v7 w =>
  joinK (fun J0 : Value → World → Prop => gdK (yb v7) true (fun k => k t1 w) w fun v9 w =>
  gdK (yb v7) true (fun k => kV P (binV .geq 3 (.tmp 9) (.const (.int .i64 0)) v9 (.int .i64 0)) w k) w fun v10 w =>
  kN P (pickN v7 v10 (.bool false)) w fun v11_1 w =>
  J0 v11_1 w) fun v11 w =>
  joinK (fun J1 : Value → World → Prop => gdK (yb v11) true (fun k => k t1 w) w fun v13 w =>
  gdK (yb v11) true (fun k => k t0 w) w fun v14 w =>
  gdK (yb v11) true (fun k => kN P (nilN v14) w k) w fun v15 w =>
  gdK (yb v11) true (fun k => kV P (Instr.fieldAt 82 v15 0) w k) w fun v16 w =>
  gdK (yb v11) true (fun k => kV P (Instr.fieldAt 80 v16 0) w k) w fun v17 w =>
  gdK (yb v11) true (fun k => kV P (Instr.loadAt 3 v17) w k) w fun v18 w =>
  gdK (yb v11) true (fun k => kV P (binV .lss 3 (.tmp 13) (.tmp 18) v13 v18) w k) w fun v19 w =>
  kN P (pickN v11 v19 (.bool false)) w fun v20_1 w =>
  J1 v20_1 w) fun v20 w =>
  joinK (fun J2 : Value → World → Prop => gdK (yb v20) true (fun k => k t0 w) w fun v22 w =>
  gdK (yb v20) true (fun k => kN P (nilN v22) w k) w fun v23 w =>
  gdK (yb v20) true (fun k => kV P (Instr.fieldAt 82 v23 0) w k) w fun v24 w =>
  gdK (yb v20) true (fun k => kV P (Instr.fieldAt 80 v24 1) w k) w fun v25 w =>
  gdK (yb v20) true (fun k => kV P (Instr.loadAt 23 v25) w k) w fun v26 w =>
  gdK (yb v20) true (fun k => k t1 w) w fun v27 w =>
  gdK (yb v20) true (fun k => kV P (binV .shr 23 (.tmp 26) (.tmp 27) v26 v27) w k) w fun v28 w =>
  gdK (yb v20) true (fun k => kV P (binV .and 23 (.tmp 28) (.const (.int .u64 1)) v28 (.int .u64 1)) w k) w fun v29 w =>
  gdK (yb v20) true (fun k => kV P (binV .neq 23 (.tmp 29) (.const (.int .u64 0)) v29 (.int .u64 0)) w k) w fun v30 w =>
  kN P (pickN v20 v30 (.bool false)) w fun v31_1 w =>
  J2 v31_1 w) fun v31 w =>
  K v31 w
theorem F43_eq (P : Program) (t0 t1 : Value) (w : World) (K : Value → World → Prop) : funE P ⟨[], [], []⟩ Try.f43 [t0, t1] w K = F43 P t0 t1 w K := by kernel_rfl
theorem F43_ok (t0 t1 : Value) (w : World) (K : Value → World → Prop) (h : F43 Try.prog t0 t1 w K) : callsK Try.prog 43 #[t0, t1] w K := calls_of_eq mixedT Try.func43 (F43_eq _ t0 t1 w K) h

/-- (*mintmark/table.Tables).at -/
def F44 (P : Program) (t0 t1 : Value) (w : World) (K : Value → World → Prop) : Prop :=
  kV P (Instr.alloc 40 true (.tuple #[])) w fun v4 w =>
  kN P (nilN t0) w fun v9 w =>
  kV P (Instr.fieldAt 85 v9 0) w fun v10 w =>
  kV P (Instr.loadAt 24 v10) w fun v11 w =>
  kN P (callN (.func (.func 50) #[] #[]) #[v11, t1, (.int .i64 8)]) w fun v13 w =>
  kV P (Instr.extract v13 0) w fun v14 w =>
  kV P (Instr.extract v13 1) w fun v15 w =>
  kN P (callN (.func (.func 25) #[] #[]) #[v14]) w fun v17 w =>
  kU P (Instr.storeAt 40 v4 v17) w fun _ w =>
  retV P 40 v4 w fun r0 =>
  K r0 w
theorem F44_eq (P : Program) (t0 t1 : Value) (w : World) (K : Value → World → Prop) : funE P ⟨[], [], []⟩ Try.f44 [t0, t1] w K = F44 P t0 t1 w K := by kernel_rfl
theorem F44_ok (t0 t1 : Value) (w : World) (K : Value → World → Prop) (h : F44 Try.prog t0 t1 w K) : callsK Try.prog 44 #[t0, t1] w K := calls_of_eq mixedT Try.func44 (F44_eq _ t0 t1 w K) h

/-- slices.Sorted[int] -/
def F45 (P : Program) (t0 : Value) (w : World) (K : Value → World → Prop) : Prop :=
  kN P (callN (.func (.func 68) #[] #[]) #[t0]) w fun v5 w =>
  kN P (callN (.func (.func 69) #[] #[]) #[v5]) w fun v7 w =>
  K v5 w
theorem F45_eq (P : Program) (t0 : Value) (w : World) (K : Value → World → Prop) : funE P ⟨[], [], []⟩ Try.f45 [t0] w K = F45 P t0 w K := by kernel_rfl
theorem F45_ok (t0 : Value) (w : World) (K : Value → World → Prop) (h : F45 Try.prog t0 w K) : callsK Try.prog 45 #[t0] w K := calls_of_eq mixedT Try.func45 (F45_eq _ t0 w K) h

/-- slices.Values[[]int,int] -/
def F46 (P : Program) (t0 : Value) (w : World) (K : Value → World → Prop) : Prop :=
  kV P (Instr.box 38 t0) w fun v1 w =>
  K (.func (.func 70) #[] #[v1]) w
theorem F46_eq (P : Program) (t0 : Value) (w : World) (K : Value → World → Prop) : funE P ⟨[], [], []⟩ Try.f46 [t0] w K = F46 P t0 w K := by kernel_rfl
theorem F46_ok (t0 : Value) (w : World) (K : Value → World → Prop) (h : F46 Try.prog t0 w K) : callsK Try.prog 46 #[t0] w K := calls_of_eq mixedT Try.func46 (F46_eq _ t0 w K) h

/-- (*mintmark/ram.Ram).Wipe -/
def F59 (P : Program) (t0 t1 : Value) (w : World) (K : Value → World → Prop) : Prop :=
  kN P (callN (.func (.func 75) #[] #[]) #[t0, t1, (.func (.func 76) #[] #[])]) w fun v7 w =>
  K v7 w
theorem F59_eq (P : Program) (t0 t1 : Value) (w : World) (K : Value → World → Prop) : funE P ⟨[], [], []⟩ Try.f59 [t0, t1] w K = F59 P t0 t1 w K := by kernel_rfl
theorem F59_ok (t0 t1 : Value) (w : World) (K : Value → World → Prop) (h : F59 Try.prog t0 t1 w K) : callsK Try.prog 59 #[t0, t1] w K := calls_of_eq mixedT Try.func59 (F59_eq _ t0 t1 w K) h

/-- mintmark/table.place -/
def F60 (P : Program) (t0 t1 : Value) (w : World) (K : Value → World → Prop) : Prop :=
  kV P (binV .mul 23 (.tmp 5) (.const (.int .u64 4096)) t0 (.int .u64 4096)) w fun v6 w =>
  kV P (convert 3 23 t1) w fun v8 w =>
  kV P (binV .mul 23 (.tmp 8) (.const (.int .u64 8)) v8 (.int .u64 8)) w fun v9 w =>
  kV P (binV .add 23 (.tmp 6) (.tmp 9) v6 v9) w fun v10 w =>
  K v10 w
theorem F60_eq (P : Program) (t0 t1 : Value) (w : World) (K : Value → World → Prop) : funE P ⟨[], [], []⟩ Try.f60 [t0, t1] w K = F60 P t0 t1 w K := by kernel_rfl
theorem F60_ok (t0 t1 : Value) (w : World) (K : Value → World → Prop) (h : F60 Try.prog t0 t1 w K) : callsK Try.prog 60 #[t0, t1] w K := calls_of_eq mixedT Try.func60 (F60_eq _ t0 t1 w K) h

/-- mintmark/scale.Ones -/
def F67 (P : Program) (t0 : Value) (w : World) (K : Value → World → Prop) : Prop :=
  kV P (Instr.box 23 t0) w fun v1 w =>
  K (.func (.func 78) #[] #[v1]) w
theorem F67_eq (P : Program) (t0 : Value) (w : World) (K : Value → World → Prop) : funE P ⟨[], [], []⟩ Try.f67 [t0] w K = F67 P t0 w K := by kernel_rfl
theorem F67_ok (t0 : Value) (w : World) (K : Value → World → Prop) (h : F67 Try.prog t0 w K) : callsK Try.prog 67 #[t0] w K := calls_of_eq mixedT Try.func67 (F67_eq _ t0 w K) h

/-- slices.Collect[int] -/
def F68 (P : Program) (t0 : Value) (w : World) (K : Value → World → Prop) : Prop :=
  kN P (callN (.func (.func 79) #[] #[]) #[(.slice none 0 0), t0]) w fun v4 w =>
  K v4 w
theorem F68_eq (P : Program) (t0 : Value) (w : World) (K : Value → World → Prop) : funE P ⟨[], [], []⟩ Try.f68 [t0] w K = F68 P t0 w K := by kernel_rfl
theorem F68_ok (t0 : Value) (w : World) (K : Value → World → Prop) (h : F68 Try.prog t0 w K) : callsK Try.prog 68 #[t0] w K := calls_of_eq mixedT Try.func68 (F68_eq _ t0 w K) h

/-- (*mintmark/frames.Pool).All$1 -/
def F71 (P : Program) (t0 t1 : Value) (w : World) (K : Value → World → Prop) : Prop :=
  kV P (Instr.loadAt 38 t1) w fun v3 w =>
  kV P (Instr.buildSlice 38 1 #[(0, t0)]) w fun v5 w =>
  kV P (Builtin.append_ #[38, 38] 38 #[v3, v5]) w fun v6 w =>
  kU P (Instr.storeAt 38 t1 v6) w fun _ w =>
  K (.tuple #[]) w
theorem F71_eq (P : Program) (t0 t1 : Value) (w : World) (K : Value → World → Prop) : funE P ⟨[], [], []⟩ Try.f71 [t0, t1] w K = F71 P t0 t1 w K := by kernel_rfl
theorem F71_ok (t0 t1 : Value) (w : World) (K : Value → World → Prop) (h : F71 Try.prog t0 t1 w K) : callsK Try.prog 71 #[t0, t1] w K := calls_of_eq mixedT Try.func71 (F71_eq _ t0 t1 w K) h

/-- mintmark/pte.Address -/
def F74 (P : Program) (t0 : Value) (w : World) (K : Value → World → Prop) : Prop :=
  kV P (binV .mul 23 (.tmp 3) (.const (.int .u64 4096)) t0 (.int .u64 4096)) w fun v4 w =>
  K v4 w
theorem F74_eq (P : Program) (t0 : Value) (w : World) (K : Value → World → Prop) : funE P ⟨[], [], []⟩ Try.f74 [t0] w K = F74 P t0 w K := by kernel_rfl
theorem F74_ok (t0 : Value) (w : World) (K : Value → World → Prop) (h : F74 Try.prog t0 w K) : callsK Try.prog 74 #[t0] w K := calls_of_eq mixedT Try.func74 (F74_eq _ t0 w K) h

/-- (*mintmark/ram.Ram).frame -/
def F75 (P : Program) (t0 t1 t2 : Value) (w : World) (K : Value → World → Prop) : Prop :=
  kN P (callN (.func (.func 58) #[] #[]) #[t0]) w fun v9 w =>
  condK v9
  (K (.int .i64 1) w)
  (kV P (binV .lss 3 (.tmp 11) (.const (.int .i64 0)) t1 (.int .i64 0)) w fun v12 w =>
  joinK (fun J0 : Value → World → Prop => gdK (yb v12) false (fun k => k t1 w) w fun v14 w =>
  gdK (yb v12) false (fun k => k t0 w) w fun v15 w =>
  gdK (yb v12) false (fun k => kN P (nilN v15) w k) w fun v16 w =>
  gdK (yb v12) false (fun k => kV P (Instr.fieldAt 78 v16 0) w k) w fun v17 w =>
  gdK (yb v12) false (fun k => kV P (Instr.loadAt 76 v17) w k) w fun v18 w =>
  gdK (yb v12) false (fun k => kV P (Builtin.len_ #[76] 3 #[v18]) w k) w fun v19 w =>
  gdK (yb v12) false (fun k => kV P (binV .geq 3 (.tmp 14) (.tmp 19) v14 v19) w k) w fun v20 w =>
  kN P (pickN v12 (.bool true) v20) w fun v21_1 w =>
  J0 v21_1 w) fun v21 w =>
  condK v21
  (K (.int .i64 2) w)
  (kN P (nilN t0) w fun v24 w =>
  kV P (Instr.fieldAt 78 v24 0) w fun v25 w =>
  kV P (Instr.loadAt 76 v25) w fun v26 w =>
  kV P (Instr.indexAt 76 v26 t1) w fun v28 w =>
  kN P (callN t2 #[v28]) w fun v29 w =>
  K (.int .i64 0) w))
theorem F75_eq (P : Program) (t0 t1 t2 : Value) (w : World) (K : Value → World → Prop) : funE P ⟨[], [], []⟩ Try.f75 [t0, t1, t2] w K = F75 P t0 t1 t2 w K := by kernel_rfl
theorem F75_ok (t0 t1 t2 : Value) (w : World) (K : Value → World → Prop) (h : F75 Try.prog t0 t1 t2 w K) : callsK Try.prog 75 #[t0, t1, t2] w K := calls_of_eq mixedT Try.func75 (F75_eq _ t0 t1 t2 w K) h

/-- (*mintmark/ram.Page).wipe -/
def F76 (P : Program) (t0 : Value) (w : World) (K : Value → World → Prop) : Prop :=
  kN P (nilN t0) w fun v3 w =>
  kV P (Instr.fieldAt 121 v3 0) w fun v4 w =>
  kV P (Instr.sliceAt 117 v4 none none none) w fun v5 w =>
  kV P (Builtin.clear_ #[137] 0 #[v5]) w fun _ w =>
  kV P (Instr.build 119 #[]) w fun v7 w =>
  kN P (nilN t0) w fun v8 w =>
  kV P (Instr.fieldAt 121 v8 1) w fun v9 w =>
  kU P (Instr.storeAt 119 v9 v7) w fun _ w =>
  K (.tuple #[]) w
theorem F76_eq (P : Program) (t0 : Value) (w : World) (K : Value → World → Prop) : funE P ⟨[], [], []⟩ Try.f76 [t0] w K = F76 P t0 w K := by kernel_rfl
theorem F76_ok (t0 : Value) (w : World) (K : Value → World → Prop) (h : F76 Try.prog t0 w K) : callsK Try.prog 76 #[t0] w K := calls_of_eq mixedT Try.func76 (F76_eq _ t0 w K) h

end Go.Proofs.Ytfpcflmgipklcaa
