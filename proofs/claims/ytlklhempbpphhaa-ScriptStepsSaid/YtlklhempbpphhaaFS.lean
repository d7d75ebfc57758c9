/- The formulas of functions of this seat, each tied to its calls; conditions: none. -/
import Derived.Test.YtlklhempbpphhaaProg
import Derived.Test.YtlklhempbpphhaaFx
import Derived.KernelRfl
namespace Go.Proofs.Ytlklhempbpphhaa
open Go.Fx
set_option linter.unusedVariables false
set_option linter.constructorNameAsVariable false
set_option maxRecDepth 100000
theorem mixedS : Try.prog.follows .mixedOrders = true := by kernel_rfl
/-- mintmark/mintmarklaw29.ScriptSteps -/
def F4 (P : Program) (t0 t1 t2 : Value) (w : World) (K : Value → World → Prop) : Prop :=
  kV P (Instr.box 3 t2) w fun v5 w =>
  kV P (Builtin.len_ #[31] 3 #[t0]) w fun v19 w =>
  kV P (binV .gtr 3 (.tmp 19) (.const (.int .i64 3000)) v19 (.int .i64 3000)) w fun v20 w =>
  joinK (fun J0 : Value → World → Prop => gdK (yb v20) false (fun k => k t1 w) w fun v22 w =>
  gdK (yb v20) false (fun k => kV P (Builtin.len_ #[32] 3 #[v22]) w k) w fun v23 w =>
  gdK (yb v20) false (fun k => kV P (binV .gtr 3 (.tmp 23) (.const (.int .i64 1000)) v23 (.int .i64 1000)) w k) w fun v24 w =>
  kN P (pickN v20 (.bool true) v24) w fun v25_1 w =>
  J0 v25_1 w) fun v25 w =>
  condK v25
  (K (.bool true) w)
  (kN P (callN (.func (.func 14) #[] #[]) #[t0]) w fun v27 w =>
  kV P (Instr.alloc 33 true (.tuple #[])) w fun v7 w =>
  kU P (Instr.storeAt 33 v7 v27) w fun _ w =>
  kN P (callN (.func (.func 15) #[] #[]) #[t0]) w fun v29 w =>
  kV P (binV .eql 36 (.tmp 30) (.const .nilFunc) v29 .nilFunc) w fun v31 w =>
  condK v31
  (K (.bool false) w)
  (kV P (Instr.alloc 3 true (.tuple #[])) w fun v9 w =>
  kV P (Instr.alloc 4 true (.tuple #[])) w fun v10 w =>
  kU P (Instr.storeAt 3 v9 (.int .i64 0)) w fun _ w =>
  kU P (Instr.storeAt 4 v10 (.bool true)) w fun _ w =>
  kN P (callN v29 #[(.func (.func 16) #[] #[v10, v9, v7])]) w fun v34 w =>
  kV P (Instr.alloc 3 true (.tuple #[])) w fun v11 w =>
  kU P (Instr.storeAt 3 v11 (.int .i64 0)) w fun _ w =>
  kN P (callN v29 #[(.func (.func 17) #[] #[v11, v5])]) w fun v37 w =>
  kN P (callN (.func (.func 18) #[] #[]) #[t1]) w fun v40 w =>
  kV P (Instr.extract v40 0) w fun v41 w =>
  kV P (Instr.extract v40 1) w fun v42 w =>
  loopT (fun R1 s1 w => ∀ _ : Nat → Value,
  kV P (Builtin.len_ #[32] 3 #[t1]) w fun v45 w =>
  kV P (binV .lss 3 (.tmp 43) (.tmp 45) (s1.getD 1 undef) v45) w fun v46 w =>
  condK v46
  (joinK (fun J3 : Value → World → Prop => gdK (yb (s1.getD 0 undef)) true (fun k => k t1 w) w fun v51 w =>
  gdK (yb (s1.getD 0 undef)) true (fun k => k (s1.getD 1 undef) w) w fun v52 w =>
  gdK (yb (s1.getD 0 undef)) true (fun k => kV P (Instr.indexAt 32 v51 v52) w k) w fun v53 w =>
  gdK (yb (s1.getD 0 undef)) true (fun k => kV P (Instr.fieldAt 39 v53 0) w k) w fun v54 w =>
  gdK (yb (s1.getD 0 undef)) true (fun k => kV P (Instr.loadAt 3 v54) w k) w fun v55 w =>
  gdK (yb (s1.getD 0 undef)) true (fun k => kV P (binV .geq 3 (.tmp 55) (.const (.int .i64 0)) v55 (.int .i64 0)) w k) w fun v56 w =>
  kN P (pickN (s1.getD 0 undef) v56 (.bool false)) w fun v57_1 w =>
  J3 v57_1 w) fun v57 w =>
  joinK (fun J4 : Value → World → Prop => gdK (yb v57) true (fun k => k t1 w) w fun v59 w =>
  gdK (yb v57) true (fun k => k (s1.getD 1 undef) w) w fun v60 w =>
  gdK (yb v57) true (fun k => kV P (Instr.indexAt 32 v59 v60) w k) w fun v61 w =>
  gdK (yb v57) true (fun k => kV P (Instr.fieldAt 39 v61 0) w k) w fun v62 w =>
  gdK (yb v57) true (fun k => kV P (Instr.loadAt 3 v62) w k) w fun v63 w =>
  gdK (yb v57) true (fun k => kV P (binV .leq 3 (.tmp 63) (.const (.int .i64 9)) v63 (.int .i64 9)) w k) w fun v64 w =>
  kN P (pickN v57 v64 (.bool false)) w fun v65_1 w =>
  J4 v65_1 w) fun v65 w =>
  joinK (fun J5 : Value → World → Prop => gdK (yb v65) true (fun k => k t1 w) w fun v67 w =>
  gdK (yb v65) true (fun k => k (s1.getD 1 undef) w) w fun v68 w =>
  gdK (yb v65) true (fun k => kV P (Instr.indexAt 32 v67 v68) w k) w fun v69 w =>
  gdK (yb v65) true (fun k => kV P (Instr.fieldAt 39 v69 1) w k) w fun v70 w =>
  gdK (yb v65) true (fun k => kV P (Instr.loadAt 3 v70) w k) w fun v71 w =>
  gdK (yb v65) true (fun k => kV P (binV .geq 3 (.tmp 71) (.const (.int .i64 0)) v71 (.int .i64 0)) w k) w fun v72 w =>
  kN P (pickN v65 v72 (.bool false)) w fun v73_1 w =>
  J5 v73_1 w) fun v73 w =>
  joinK (fun J6 : Value → World → Prop => gdK (yb v73) true (fun k => k t1 w) w fun v75 w =>
  gdK (yb v73) true (fun k => k (s1.getD 1 undef) w) w fun v76 w =>
  gdK (yb v73) true (fun k => kV P (Instr.indexAt 32 v75 v76) w k) w fun v77 w =>
  gdK (yb v73) true (fun k => kV P (Instr.fieldAt 39 v77 1) w k) w fun v78 w =>
  gdK (yb v73) true (fun k => kV P (Instr.loadAt 3 v78) w k) w fun v79 w =>
  gdK (yb v73) true (fun k => kV P (binV .leq 3 (.tmp 79) (.const (.int .i64 255)) v79 (.int .i64 255)) w k) w fun v80 w =>
  kN P (pickN v73 v80 (.bool false)) w fun v81_1 w =>
  J6 v81_1 w) fun v81 w =>
  joinK (fun J7 : Value → World → Prop => gdK (yb v81) true (fun k => k t1 w) w fun v83 w =>
  gdK (yb v81) true (fun k => k (s1.getD 1 undef) w) w fun v84 w =>
  gdK (yb v81) true (fun k => kV P (Instr.indexAt 32 v83 v84) w k) w fun v85 w =>
  gdK (yb v81) true (fun k => kV P (Instr.fieldAt 39 v85 2) w k) w fun v86 w =>
  gdK (yb v81) true (fun k => kV P (Instr.loadAt 3 v86) w k) w fun v87 w =>
  gdK (yb v81) true (fun k => kV P (binV .geq 3 (.tmp 87) (.const (.int .i64 0)) v87 (.int .i64 0)) w k) w fun v88 w =>
  kN P (pickN v81 v88 (.bool false)) w fun v89_1 w =>
  J7 v89_1 w) fun v89 w =>
  joinK (fun J8 : Value → World → Prop => gdK (yb v89) true (fun k => k t1 w) w fun v91 w =>
  gdK (yb v89) true (fun k => k (s1.getD 1 undef) w) w fun v92 w =>
  gdK (yb v89) true (fun k => kV P (Instr.indexAt 32 v91 v92) w k) w fun v93 w =>
  gdK (yb v89) true (fun k => kV P (Instr.fieldAt 39 v93 2) w k) w fun v94 w =>
  gdK (yb v89) true (fun k => kV P (Instr.loadAt 3 v94) w k) w fun v95 w =>
  gdK (yb v89) true (fun k => kV P (binV .leq 3 (.tmp 95) (.const (.int .i64 255)) v95 (.int .i64 255)) w k) w fun v96 w =>
  kN P (pickN v89 v96 (.bool false)) w fun v97_1 w =>
  J8 v97_1 w) fun v97 w =>
  kV P (binV .add 3 (.tmp 47) (.const (.int .i64 1)) (s1.getD 1 undef) (.int .i64 1)) w fun v48 w =>
  R1 [v97, v48] w)
  (kV P (Instr.loadAt 4 v10) w fun v98 w =>
  kV P (Op.unary .not v98) w fun v99 w =>
  joinK (fun J9 : Value → World → Prop => gdK (yb v99) false (fun k => kV P (Instr.loadAt 3 v9) w k) w fun v101 w =>
  gdK (yb v99) false (fun k => kV P (Instr.loadAt 33 v7) w k) w fun v102 w =>
  gdK (yb v99) false (fun k => kV P (Builtin.len_ #[33] 3 #[v102]) w k) w fun v103 w =>
  gdK (yb v99) false (fun k => kV P (binV .neq 3 (.tmp 101) (.tmp 103) v101 v103) w k) w fun v104 w =>
  kN P (pickN v99 (.bool true) v104) w fun v105_1 w =>
  J9 v105_1 w) fun v105 w =>
  joinK (fun J10 : Value → World → Prop => gdK (yb v105) false (fun k => kV P (Instr.loadAt 3 v11) w k) w fun v107 w =>
  gdK (yb v105) false (fun k => kV P (Instr.loadAt 3 v9) w k) w fun v108 w =>
  gdK (yb v105) false (fun k => kV P (Instr.loadAt 3 v5) w k) w fun v109 w =>
  gdK (yb v105) false (fun k => kV P (binV .and 3 (.tmp 109) (.const (.int .i64 7)) v109 (.int .i64 7)) w k) w fun v110 w =>
  gdK (yb v105) false (fun k => kV P (binV .add 3 (.tmp 110) (.const (.int .i64 1)) v110 (.int .i64 1)) w k) w fun v111 w =>
  gdK (yb v105) false (fun k => kV P (Builtin.min_ #[3, 3] 3 #[v108, v111]) w k) w fun v112 w =>
  gdK (yb v105) false (fun k => kV P (binV .neq 3 (.tmp 107) (.tmp 112) v107 v112) w k) w fun v113 w =>
  kN P (pickN v105 (.bool true) v113) w fun v114_1 w =>
  J10 v114_1 w) fun v114 w =>
  joinK (fun J11 : Value → World → Prop => gdK (yb v114) false (fun k => k v42 w) w fun v116 w =>
  gdK (yb v114) false (fun k => k (s1.getD 0 undef) w) w fun v117 w =>
  gdK (yb v114) false (fun k => kV P (binV .neq 4 (.tmp 116) (.tmp 117) v116 v117) w k) w fun v118 w =>
  kN P (pickN v114 (.bool true) v118) w fun v119_1 w =>
  J11 v119_1 w) fun v119 w =>
  joinK (fun J12 : Value → World → Prop => gdK (yb v119) false (fun k => k (s1.getD 0 undef) w) w fun v121 w =>
  gdK (yb v119) false (fun k => k v121 w) w fun v122 w =>
  gdK (yb v122) true (fun k => k v41 w) w fun v123 w =>
  gdK (yb v122) true (fun k => kV P (Builtin.len_ #[31] 3 #[v123]) w k) w fun v124 w =>
  gdK (yb v122) true (fun k => k t1 w) w fun v125 w =>
  gdK (yb v122) true (fun k => kV P (Builtin.len_ #[32] 3 #[v125]) w k) w fun v126 w =>
  gdK (yb v122) true (fun k => kV P (binV .mul 3 (.const (.int .i64 3)) (.tmp 126) (.int .i64 3) v126) w k) w fun v127 w =>
  gdK (yb v122) true (fun k => kV P (binV .neq 3 (.tmp 124) (.tmp 127) v124 v127) w k) w fun v128 w =>
  gdK (yb v119) false (fun k => kN P (pickN v122 v128 (.bool false)) w k) w fun v129 w =>
  kN P (pickN v119 (.bool true) v129) w fun v130_1 w =>
  J12 v130_1 w) fun v130 w =>
  joinK (fun J13 : Value → World → Prop => gdK (yb v130) false (fun k => k (s1.getD 0 undef) w) w fun v132 w =>
  gdK (yb v130) false (fun k => kV P (Op.unary .not v132) w k) w fun v133 w =>
  gdK (yb v130) false (fun k => k v133 w) w fun v134 w =>
  gdK (yb v134) true (fun k => k v41 w) w fun v135 w =>
  gdK (yb v134) true (fun k => kV P (Builtin.len_ #[31] 3 #[v135]) w k) w fun v136 w =>
  gdK (yb v134) true (fun k => kV P (binV .neq 3 (.tmp 136) (.const (.int .i64 0)) v136 (.int .i64 0)) w k) w fun v137 w =>
  gdK (yb v130) false (fun k => kN P (pickN v134 v137 (.bool false)) w k) w fun v138 w =>
  kN P (pickN v130 (.bool true) v138) w fun v139_1 w =>
  J13 v139_1 w) fun v139 w =>
  condK v139
  (K (.bool false) w)
  (kN P (callN (.func (.func 14) #[] #[]) #[v41]) w fun v141 w =>
  loopT (fun R14 s14 w => ∀ _ : Nat → Value,
  joinK (fun J16 : Value → World → Prop => gdK (yb (s1.getD 0 undef)) true (fun k => k (s14.getD 0 undef) w) w fun v144 w =>
  gdK (yb (s1.getD 0 undef)) true (fun k => k t1 w) w fun v145 w =>
  gdK (yb (s1.getD 0 undef)) true (fun k => kV P (Builtin.len_ #[32] 3 #[v145]) w k) w fun v146 w =>
  gdK (yb (s1.getD 0 undef)) true (fun k => kV P (binV .lss 3 (.tmp 144) (.tmp 146) v144 v146) w k) w fun v147 w =>
  kN P (pickN (s1.getD 0 undef) v147 (.bool false)) w fun v148_1 w =>
  J16 v148_1 w) fun v148 w =>
  condK v148
  (drewK (fun w =>
  sV P (Instr.indexAt 32 t1 (s14.getD 0 undef)) w fun v153 =>
  sV P (Instr.loadAt 39 v153) w fun v154 =>
  sV P (Instr.indexAt 33 v141 (s14.getD 0 undef)) w fun v157 =>
  sV P (Instr.loadAt 40 v157) w fun v158 =>
  sV P (binV .neq 40 (.tmp 154) (.tmp 158) v154 v158) w fun v159 =>
  condK v159
  (K (.bool false) w)
  (kV P (binV .add 3 (.tmp 149) (.const (.int .i64 1)) (s14.getD 0 undef) (.int .i64 1)) w fun v150 w =>
  R14 [v150] w)) w)
  (kN P (callN (.func (.func 19) #[] #[]) #[]) w fun v160 w =>
  K v160 w)) [(.int .i64 0)] w))) [(.bool true), (.int .i64 0)] w))
theorem F4_eq (P : Program) (t0 t1 t2 : Value) (w : World) (K : Value → World → Prop) : funE P ⟨[], [(14, [14, 15]), (21, [17])], []⟩ Try.f4 [t0, t1, t2] w K = F4 P t0 t1 t2 w K := by kernel_rfl
theorem F4_ok (t0 t1 t2 : Value) (w : World) (K : Value → World → Prop) (h : F4 Try.prog t0 t1 t2 w K) : callsK Try.prog 4 #[t0, t1, t2] w K := calls_of_eq mixedS Try.func4 (F4_eq _ t0 t1 t2 w K) h

/-- mintmark/mintmarkref29.Steps -/
def F14 (P : Program) (t0 : Value) (w : World) (K : Value → World → Prop) : Prop :=
  loopT (fun R0 s0 w => ∀ _ : Nat → Value,
  kV P (binV .add 3 (.tmp 6) (.const (.int .i64 2)) (s0.getD 1 undef) (.int .i64 2)) w fun v7 w =>
  kV P (Builtin.len_ #[31] 3 #[t0]) w fun v9 w =>
  kV P (binV .lss 3 (.tmp 7) (.tmp 9) v7 v9) w fun v10 w =>
  condK v10
  (joinL (fun J2 =>
  drewK (fun w =>
  pV P (Instr.indexAt 31 t0 (s0.getD 1 undef)) fun v15 =>
  pV P (binV .add 3 (.tmp 19) (.const (.int .i64 1)) (s0.getD 1 undef) (.int .i64 1)) fun v20 =>
  pV P (Instr.indexAt 31 t0 v20) fun v21 =>
  pV P (binV .add 3 (.tmp 25) (.const (.int .i64 2)) (s0.getD 1 undef) (.int .i64 2)) fun v26 =>
  pV P (Instr.indexAt 31 t0 v26) fun v27 =>
  (kV P (Instr.loadAt 5 v15) w fun v16 w =>
  pV P (convert 5 3 v16) fun v17 =>
  (kV P (Instr.loadAt 5 v21) w fun v22 w =>
  pV P (convert 5 3 v22) fun v23 =>
  (kV P (Instr.loadAt 5 v27) w fun v28 w =>
  pV P (convert 5 3 v28) fun v29 =>
  pV P (Instr.build 40 #[(0, v17), (1, v23), (2, v29)]) fun v30 =>
  kV P (Instr.alloc 40 true (.tuple #[])) w fun v5 w =>
  kU P (Instr.storeAt 40 v5 v30) w fun _ w =>
  J2 [v5] w) ∧
  (kV P (Instr.alloc 40 true (.tuple #[])) w fun v5_1 w =>
  kV P (Instr.loadAt 5 v27) w fun v28_1 w =>
  pV P (convert 5 3 v28_1) fun v29_1 =>
  pV P (Instr.build 40 #[(0, v17), (1, v23), (2, v29_1)]) fun v30_1 =>
  kU P (Instr.storeAt 40 v5_1 v30_1) w fun _ w =>
  J2 [v5_1] w)) ∧
  (kV P (Instr.loadAt 5 v27) w fun v28_2 w =>
  pV P (convert 5 3 v28_2) fun v29_2 =>
  (kV P (Instr.loadAt 5 v21) w fun v22_1 w =>
  pV P (convert 5 3 v22_1) fun v23_1 =>
  pV P (Instr.build 40 #[(0, v17), (1, v23_1), (2, v29_2)]) fun v30_2 =>
  kV P (Instr.alloc 40 true (.tuple #[])) w fun v5_2 w =>
  kU P (Instr.storeAt 40 v5_2 v30_2) w fun _ w =>
  J2 [v5_2] w) ∧
  (kV P (Instr.alloc 40 true (.tuple #[])) w fun v5_3 w =>
  kV P (Instr.loadAt 5 v21) w fun v22_2 w =>
  pV P (convert 5 3 v22_2) fun v23_2 =>
  pV P (Instr.build 40 #[(0, v17), (1, v23_2), (2, v29_2)]) fun v30_3 =>
  kU P (Instr.storeAt 40 v5_3 v30_3) w fun _ w =>
  J2 [v5_3] w)) ∧
  (kV P (Instr.alloc 40 true (.tuple #[])) w fun v5_4 w =>
  (kV P (Instr.loadAt 5 v21) w fun v22_3 w =>
  pV P (convert 5 3 v22_3) fun v23_3 =>
  kV P (Instr.loadAt 5 v27) w fun v28_3 w =>
  pV P (convert 5 3 v28_3) fun v29_3 =>
  pV P (Instr.build 40 #[(0, v17), (1, v23_3), (2, v29_3)]) fun v30_4 =>
  kU P (Instr.storeAt 40 v5_4 v30_4) w fun _ w =>
  J2 [v5_4] w) ∧
  (kV P (Instr.loadAt 5 v27) w fun v28_4 w =>
  pV P (convert 5 3 v28_4) fun v29_4 =>
  kV P (Instr.loadAt 5 v21) w fun v22_4 w =>
  pV P (convert 5 3 v22_4) fun v23_4 =>
  pV P (Instr.build 40 #[(0, v17), (1, v23_4), (2, v29_4)]) fun v30_5 =>
  kU P (Instr.storeAt 40 v5_4 v30_5) w fun _ w =>
  J2 [v5_4] w))) ∧
  (kV P (Instr.loadAt 5 v21) w fun v22_5 w =>
  pV P (convert 5 3 v22_5) fun v23_5 =>
  (kV P (Instr.loadAt 5 v15) w fun v16_1 w =>
  pV P (convert 5 3 v16_1) fun v17_1 =>
  (kV P (Instr.loadAt 5 v27) w fun v28_5 w =>
  pV P (convert 5 3 v28_5) fun v29_5 =>
  pV P (Instr.build 40 #[(0, v17_1), (1, v23_5), (2, v29_5)]) fun v30_6 =>
  kV P (Instr.alloc 40 true (.tuple #[])) w fun v5_5 w =>
  kU P (Instr.storeAt 40 v5_5 v30_6) w fun _ w =>
  J2 [v5_5] w) ∧
  (kV P (Instr.alloc 40 true (.tuple #[])) w fun v5_6 w =>
  kV P (Instr.loadAt 5 v27) w fun v28_6 w =>
  pV P (convert 5 3 v28_6) fun v29_6 =>
  pV P (Instr.build 40 #[(0, v17_1), (1, v23_5), (2, v29_6)]) fun v30_7 =>
  kU P (Instr.storeAt 40 v5_6 v30_7) w fun _ w =>
  J2 [v5_6] w)) ∧
  (kV P (Instr.loadAt 5 v27) w fun v28_7 w =>
  pV P (convert 5 3 v28_7) fun v29_7 =>
  (kV P (Instr.loadAt 5 v15) w fun v16_2 w =>
  pV P (convert 5 3 v16_2) fun v17_2 =>
  pV P (Instr.build 40 #[(0, v17_2), (1, v23_5), (2, v29_7)]) fun v30_8 =>
  kV P (Instr.alloc 40 true (.tuple #[])) w fun v5_7 w =>
  kU P (Instr.storeAt 40 v5_7 v30_8) w fun _ w =>
  J2 [v5_7] w) ∧
  (kV P (Instr.alloc 40 true (.tuple #[])) w fun v5_8 w =>
  kV P (Instr.loadAt 5 v15) w fun v16_3 w =>
  pV P (convert 5 3 v16_3) fun v17_3 =>
  pV P (Instr.build 40 #[(0, v17_3), (1, v23_5), (2, v29_7)]) fun v30_9 =>
  kU P (Instr.storeAt 40 v5_8 v30_9) w fun _ w =>
  J2 [v5_8] w)) ∧
  (kV P (Instr.alloc 40 true (.tuple #[])) w fun v5_9 w =>
  (kV P (Instr.loadAt 5 v15) w fun v16_4 w =>
  pV P (convert 5 3 v16_4) fun v17_4 =>
  kV P (Instr.loadAt 5 v27) w fun v28_8 w =>
  pV P (convert 5 3 v28_8) fun v29_8 =>
  pV P (Instr.build 40 #[(0, v17_4), (1, v23_5), (2, v29_8)]) fun v30_10 =>
  kU P (Instr.storeAt 40 v5_9 v30_10) w fun _ w =>
  J2 [v5_9] w) ∧
  (kV P (Instr.loadAt 5 v27) w fun v28_9 w =>
  pV P (convert 5 3 v28_9) fun v29_9 =>
  kV P (Instr.loadAt 5 v15) w fun v16_5 w =>
  pV P (convert 5 3 v16_5) fun v17_5 =>
  pV P (Instr.build 40 #[(0, v17_5), (1, v23_5), (2, v29_9)]) fun v30_11 =>
  kU P (Instr.storeAt 40 v5_9 v30_11) w fun _ w =>
  J2 [v5_9] w))) ∧
  (kV P (Instr.loadAt 5 v27) w fun v28_10 w =>
  pV P (convert 5 3 v28_10) fun v29_10 =>
  (kV P (Instr.loadAt 5 v15) w fun v16_6 w =>
  pV P (convert 5 3 v16_6) fun v17_6 =>
  (kV P (Instr.loadAt 5 v21) w fun v22_6 w =>
  pV P (convert 5 3 v22_6) fun v23_6 =>
  pV P (Instr.build 40 #[(0, v17_6), (1, v23_6), (2, v29_10)]) fun v30_12 =>
  kV P (Instr.alloc 40 true (.tuple #[])) w fun v5_10 w =>
  kU P (Instr.storeAt 40 v5_10 v30_12) w fun _ w =>
  J2 [v5_10] w) ∧
  (kV P (Instr.alloc 40 true (.tuple #[])) w fun v5_11 w =>
  kV P (Instr.loadAt 5 v21) w fun v22_7 w =>
  pV P (convert 5 3 v22_7) fun v23_7 =>
  pV P (Instr.build 40 #[(0, v17_6), (1, v23_7), (2, v29_10)]) fun v30_13 =>
  kU P (Instr.storeAt 40 v5_11 v30_13) w fun _ w =>
  J2 [v5_11] w)) ∧
  (kV P (Instr.loadAt 5 v21) w fun v22_8 w =>
  pV P (convert 5 3 v22_8) fun v23_8 =>
  (kV P (Instr.loadAt 5 v15) w fun v16_7 w =>
  pV P (convert 5 3 v16_7) fun v17_7 =>
  pV P (Instr.build 40 #[(0, v17_7), (1, v23_8), (2, v29_10)]) fun v30_14 =>
  kV P (Instr.alloc 40 true (.tuple #[])) w fun v5_12 w =>
  kU P (Instr.storeAt 40 v5_12 v30_14) w fun _ w =>
  J2 [v5_12] w) ∧
  (kV P (Instr.alloc 40 true (.tuple #[])) w fun v5_13 w =>
  kV P (Instr.loadAt 5 v15) w fun v16_8 w =>
  pV P (convert 5 3 v16_8) fun v17_8 =>
  pV P (Instr.build 40 #[(0, v17_8), (1, v23_8), (2, v29_10)]) fun v30_15 =>
  kU P (Instr.storeAt 40 v5_13 v30_15) w fun _ w =>
  J2 [v5_13] w)) ∧
  (kV P (Instr.alloc 40 true (.tuple #[])) w fun v5_14 w =>
  (kV P (Instr.loadAt 5 v15) w fun v16_9 w =>
  pV P (convert 5 3 v16_9) fun v17_9 =>
  kV P (Instr.loadAt 5 v21) w fun v22_9 w =>
  pV P (convert 5 3 v22_9) fun v23_9 =>
  pV P (Instr.build 40 #[(0, v17_9), (1, v23_9), (2, v29_10)]) fun v30_16 =>
  kU P (Instr.storeAt 40 v5_14 v30_16) w fun _ w =>
  J2 [v5_14] w) ∧
  (kV P (Instr.loadAt 5 v21) w fun v22_10 w =>
  pV P (convert 5 3 v22_10) fun v23_10 =>
  kV P (Instr.loadAt 5 v15) w fun v16_10 w =>
  pV P (convert 5 3 v16_10) fun v17_10 =>
  pV P (Instr.build 40 #[(0, v17_10), (1, v23_10), (2, v29_10)]) fun v30_17 =>
  kU P (Instr.storeAt 40 v5_14 v30_17) w fun _ w =>
  J2 [v5_14] w))) ∧
  (kV P (Instr.alloc 40 true (.tuple #[])) w fun v5_15 w =>
  (kV P (Instr.loadAt 5 v15) w fun v16_11 w =>
  pV P (convert 5 3 v16_11) fun v17_11 =>
  (kV P (Instr.loadAt 5 v21) w fun v22_11 w =>
  pV P (convert 5 3 v22_11) fun v23_11 =>
  kV P (Instr.loadAt 5 v27) w fun v28_11 w =>
  pV P (convert 5 3 v28_11) fun v29_11 =>
  pV P (Instr.build 40 #[(0, v17_11), (1, v23_11), (2, v29_11)]) fun v30_18 =>
  kU P (Instr.storeAt 40 v5_15 v30_18) w fun _ w =>
  J2 [v5_15] w) ∧
  (kV P (Instr.loadAt 5 v27) w fun v28_12 w =>
  pV P (convert 5 3 v28_12) fun v29_12 =>
  kV P (Instr.loadAt 5 v21) w fun v22_12 w =>
  pV P (convert 5 3 v22_12) fun v23_12 =>
  pV P (Instr.build 40 #[(0, v17_11), (1, v23_12), (2, v29_12)]) fun v30_19 =>
  kU P (Instr.storeAt 40 v5_15 v30_19) w fun _ w =>
  J2 [v5_15] w)) ∧
  (kV P (Instr.loadAt 5 v21) w fun v22_13 w =>
  pV P (convert 5 3 v22_13) fun v23_13 =>
  (kV P (Instr.loadAt 5 v15) w fun v16_12 w =>
  pV P (convert 5 3 v16_12) fun v17_12 =>
  kV P (Instr.loadAt 5 v27) w fun v28_13 w =>
  pV P (convert 5 3 v28_13) fun v29_13 =>
  pV P (Instr.build 40 #[(0, v17_12), (1, v23_13), (2, v29_13)]) fun v30_20 =>
  kU P (Instr.storeAt 40 v5_15 v30_20) w fun _ w =>
  J2 [v5_15] w) ∧
  (kV P (Instr.loadAt 5 v27) w fun v28_14 w =>
  pV P (convert 5 3 v28_14) fun v29_14 =>
  kV P (Instr.loadAt 5 v15) w fun v16_13 w =>
  pV P (convert 5 3 v16_13) fun v17_13 =>
  pV P (Instr.build 40 #[(0, v17_13), (1, v23_13), (2, v29_14)]) fun v30_21 =>
  kU P (Instr.storeAt 40 v5_15 v30_21) w fun _ w =>
  J2 [v5_15] w)) ∧
  (kV P (Instr.loadAt 5 v27) w fun v28_15 w =>
  pV P (convert 5 3 v28_15) fun v29_15 =>
  (kV P (Instr.loadAt 5 v15) w fun v16_14 w =>
  pV P (convert 5 3 v16_14) fun v17_14 =>
  kV P (Instr.loadAt 5 v21) w fun v22_14 w =>
  pV P (convert 5 3 v22_14) fun v23_14 =>
  pV P (Instr.build 40 #[(0, v17_14), (1, v23_14), (2, v29_15)]) fun v30_22 =>
  kU P (Instr.storeAt 40 v5_15 v30_22) w fun _ w =>
  J2 [v5_15] w) ∧
  (kV P (Instr.loadAt 5 v21) w fun v22_15 w =>
  pV P (convert 5 3 v22_15) fun v23_15 =>
  kV P (Instr.loadAt 5 v15) w fun v16_15 w =>
  pV P (convert 5 3 v16_15) fun v17_15 =>
  pV P (Instr.build 40 #[(0, v17_15), (1, v23_15), (2, v29_15)]) fun v30_23 =>
  kU P (Instr.storeAt 40 v5_15 v30_23) w fun _ w =>
  J2 [v5_15] w)))) w) fun s2 w => ∀ _ : Nat → Value,
  joinL (fun J4 =>
  kV P (Instr.fieldAt 40 (s2.getD 0 undef) 0) w fun v31 w =>
  kV P (Instr.loadAt 3 v31) w fun v32 w =>
  kV P (binV .gtr 3 (.tmp 32) (.const (.int .i64 9)) v32 (.int .i64 9)) w fun v33 w =>
  condK v33
  (kV P (Instr.fieldAt 40 (s2.getD 0 undef) 0) w fun v34 w =>
  kU P (Instr.storeAt 3 v34 (.int .i64 0)) w fun _ w =>
  J4 [] w)
  (J4 [] w)) fun s4 w => ∀ _ : Nat → Value,
  kV P (Instr.loadAt 40 (s2.getD 0 undef)) w fun v36 w =>
  kV P (Instr.buildSlice 33 1 #[(0, v36)]) w fun v37 w =>
  kV P (Builtin.append_ #[33, 33] 33 #[(s0.getD 0 undef), v37]) w fun v38 w =>
  kV P (binV .add 3 (.tmp 11) (.const (.int .i64 3)) (s0.getD 1 undef) (.int .i64 3)) w fun v12 w =>
  R0 [v38, v12] w)
  (K (s0.getD 0 undef) w)) [(.slice none 0 0), (.int .i64 0)] w
theorem F14_eq (P : Program) (t0 : Value) (w : World) (K : Value → World → Prop) : funE P ⟨[(5, 999)], [(3, [3, 4])], [(6, [5]), (8, [])]⟩ Try.f14 [t0] w K = F14 P t0 w K := by kernel_rfl
theorem F14_ok (t0 : Value) (w : World) (K : Value → World → Prop) (h : F14 Try.prog t0 w K) : callsK Try.prog 14 #[t0] w K := calls_of_eq mixedS Try.func14 (F14_eq _ t0 w K) h

/-- mintmark/script.Steps -/
def F15 (P : Program) (t0 : Value) (w : World) (K : Value → World → Prop) : Prop :=
  kV P (Instr.box 31 t0) w fun v1 w =>
  K (.func (.func 51) #[] #[v1]) w
theorem F15_eq (P : Program) (t0 : Value) (w : World) (K : Value → World → Prop) : funE P ⟨[], [], []⟩ Try.f15 [t0] w K = F15 P t0 w K := by kernel_rfl
theorem F15_ok (t0 : Value) (w : World) (K : Value → World → Prop) (h : F15 Try.prog t0 w K) : callsK Try.prog 15 #[t0] w K := calls_of_eq mixedS Try.func15 (F15_eq _ t0 w K) h

/-- mintmark/mintmarklaw29.ScriptSteps$1 -/
def F16 (P : Program) (t0 t1 t2 t3 : Value) (w : World) (K : Value → World → Prop) : Prop :=
  kV P (Instr.box 39 t0) w fun v4 w =>
  drewK (fun w =>
  sV P (Instr.loadAt 4 t1) w fun v6 =>
  joinK (fun J0 : Value → Prop => gdS (yb v6) true (fun k => sV P (Instr.loadAt 3 t2) w k) fun v8 =>
  gdS (yb v6) true (fun k => sV P (Instr.loadAt 33 t3) w k) fun v9 =>
  gdS (yb v6) true (fun k => sV P (Builtin.len_ #[33] 3 #[v9]) w k) fun v10 =>
  gdS (yb v6) true (fun k => sV P (binV .lss 3 (.tmp 8) (.tmp 10) v8 v10) w k) fun v11 =>
  sN P (pickN v6 v11 (.bool false)) w fun v12_1 =>
  J0 v12_1) fun v12 =>
  gdS (yb v12) true (fun k => sV P (Instr.loadAt 39 v4) w k) fun v14 =>
  gdS (yb v12) true (fun k => sV P (Instr.loadAt 33 t3) w k) fun v15 =>
  gdS (yb v12) true (fun k => sV P (Instr.loadAt 3 t2) w k) fun v16 =>
  gdS (yb v12) true (fun k => sV P (Instr.indexAt 33 v15 v16) w k) fun v17 =>
  gdS (yb v12) true (fun k => sV P (Instr.loadAt 40 v17) w k) fun v18 =>
  joinK (fun J1 : Value → World → Prop => gdK (yb v12) true (fun k => kV P (binV .eql 40 (.tmp 14) (.tmp 18) v14 v18) w k) w fun v19 w =>
  kN P (pickN v12 v19 (.bool false)) w fun v20_1 w =>
  J1 v20_1 w) fun v20 w =>
  kU P (Instr.storeAt 4 t1 v20) w fun _ w =>
  kV P (Instr.loadAt 3 t2) w fun v21 w =>
  kV P (binV .add 3 (.tmp 21) (.const (.int .i64 1)) v21 (.int .i64 1)) w fun v22 w =>
  kU P (Instr.storeAt 3 t2 v22) w fun _ w =>
  K (.bool true) w) w
theorem F16_eq (P : Program) (t0 t1 t2 t3 : Value) (w : World) (K : Value → World → Prop) : funE P ⟨[(1, 13)], [], []⟩ Try.f16 [t0, t1, t2, t3] w K = F16 P t0 t1 t2 t3 w K := by kernel_rfl
theorem F16_ok (t0 t1 t2 t3 : Value) (w : World) (K : Value → World → Prop) (h : F16 Try.prog t0 t1 t2 t3 w K) : callsK Try.prog 16 #[t0, t1, t2, t3] w K := calls_of_eq mixedS Try.func16 (F16_eq _ t0 t1 t2 t3 w K) h

/-- mintmark/mintmarklaw29.ScriptSteps$2 -/
def F17 (P : Program) (t0 t1 t2 : Value) (w : World) (K : Value → World → Prop) : Prop :=
  kV P (Instr.box 39 t0) w fun v3 w =>
  kV P (Instr.loadAt 3 t1) w fun v5 w =>
  kV P (binV .add 3 (.tmp 5) (.const (.int .i64 1)) v5 (.int .i64 1)) w fun v6 w =>
  kU P (Instr.storeAt 3 t1 v6) w fun _ w =>
  kV P (Instr.loadAt 3 t1) w fun v7 w =>
  kV P (Instr.loadAt 3 t2) w fun v8 w =>
  kV P (binV .and 3 (.tmp 8) (.const (.int .i64 7)) v8 (.int .i64 7)) w fun v9 w =>
  kV P (binV .leq 3 (.tmp 7) (.tmp 9) v7 v9) w fun v10 w =>
  K v10 w
theorem F17_eq (P : Program) (t0 t1 t2 : Value) (w : World) (K : Value → World → Prop) : funE P ⟨[], [], []⟩ Try.f17 [t0, t1, t2] w K = F17 P t0 t1 t2 w K := by kernel_rfl
theorem F17_ok (t0 t1 t2 : Value) (w : World) (K : Value → World → Prop) (h : F17 Try.prog t0 t1 t2 w K) : callsK Try.prog 17 #[t0, t1, t2] w K := calls_of_eq mixedS Try.func17 (F17_eq _ t0 t1 t2 w K) h

/-- mintmark/script.Bytes -/
def F18 (P : Program) (t0 : Value) (w : World) (K : Value → World → Prop) : Prop :=
  kV P (Builtin.len_ #[32] 3 #[t0]) w fun v8 w =>
  loopT (fun R0 s0 w => ∀ _ : Nat → Value,
  kV P (binV .lss 3 (.tmp 9) (.tmp 8) (s0.getD 1 undef) v8) w fun v10 w =>
  condK v10
  (kV P (Instr.indexAt 32 t0 (s0.getD 1 undef)) w fun v11 w =>
  kV P (Instr.loadAt 39 v11) w fun v12 w =>
  kV P (Instr.alloc 39 true (.tuple #[])) w fun v6 w =>
  kU P (Instr.storeAt 39 v6 v12) w fun _ w =>
  kV P (Instr.fieldAt 39 v6 0) w fun v13 w =>
  kV P (Instr.loadAt 3 v13) w fun v14 w =>
  kV P (binV .lss 3 (.tmp 14) (.const (.int .i64 0)) v14 (.int .i64 0)) w fun v15 w =>
  joinK (fun J2 : Value → World → Prop => gdK (yb v15) false (fun k => kV P (Instr.fieldAt 39 v6 0) w k) w fun v17 w =>
  gdK (yb v15) false (fun k => kV P (Instr.loadAt 3 v17) w k) w fun v18 w =>
  gdK (yb v15) false (fun k => kV P (binV .gtr 3 (.tmp 18) (.const (.int .i64 9)) v18 (.int .i64 9)) w k) w fun v19 w =>
  kN P (pickN v15 (.bool true) v19) w fun v20_1 w =>
  J2 v20_1 w) fun v20 w =>
  joinK (fun J3 : Value → World → Prop => gdK (yb v20) false (fun k => kV P (Instr.fieldAt 39 v6 1) w k) w fun v22 w =>
  gdK (yb v20) false (fun k => kV P (Instr.loadAt 3 v22) w k) w fun v23 w =>
  gdK (yb v20) false (fun k => kV P (binV .lss 3 (.tmp 23) (.const (.int .i64 0)) v23 (.int .i64 0)) w k) w fun v24 w =>
  kN P (pickN v20 (.bool true) v24) w fun v25_1 w =>
  J3 v25_1 w) fun v25 w =>
  joinK (fun J4 : Value → World → Prop => gdK (yb v25) false (fun k => kV P (Instr.fieldAt 39 v6 1) w k) w fun v27 w =>
  gdK (yb v25) false (fun k => kV P (Instr.loadAt 3 v27) w k) w fun v28 w =>
  gdK (yb v25) false (fun k => kV P (binV .gtr 3 (.tmp 28) (.const (.int .i64 255)) v28 (.int .i64 255)) w k) w fun v29 w =>
  kN P (pickN v25 (.bool true) v29) w fun v30_1 w =>
  J4 v30_1 w) fun v30 w =>
  joinK (fun J5 : Value → World → Prop => gdK (yb v30) false (fun k => kV P (Instr.fieldAt 39 v6 2) w k) w fun v32 w =>
  gdK (yb v30) false (fun k => kV P (Instr.loadAt 3 v32) w k) w fun v33 w =>
  gdK (yb v30) false (fun k => kV P (binV .lss 3 (.tmp 33) (.const (.int .i64 0)) v33 (.int .i64 0)) w k) w fun v34 w =>
  kN P (pickN v30 (.bool true) v34) w fun v35_1 w =>
  J5 v35_1 w) fun v35 w =>
  joinK (fun J6 : Value → World → Prop => gdK (yb v35) false (fun k => kV P (Instr.fieldAt 39 v6 2) w k) w fun v37 w =>
  gdK (yb v35) false (fun k => kV P (Instr.loadAt 3 v37) w k) w fun v38 w =>
  gdK (yb v35) false (fun k => kV P (binV .gtr 3 (.tmp 38) (.const (.int .i64 255)) v38 (.int .i64 255)) w k) w fun v39 w =>
  kN P (pickN v35 (.bool true) v39) w fun v40_1 w =>
  J6 v40_1 w) fun v40 w =>
  condK v40
  (K (.tuple #[(.slice none 0 0), (.bool false)]) w)
  (kV P (Instr.fieldAt 39 v6 0) w fun v42 w =>
  kV P (Instr.loadAt 3 v42) w fun v43 w =>
  kV P (convert 3 5 v43) w fun v44 w =>
  kV P (Instr.fieldAt 39 v6 1) w fun v45 w =>
  kV P (Instr.loadAt 3 v45) w fun v46 w =>
  kV P (convert 3 5 v46) w fun v47 w =>
  kV P (Instr.fieldAt 39 v6 2) w fun v48 w =>
  kV P (Instr.loadAt 3 v48) w fun v49 w =>
  kV P (convert 3 5 v49) w fun v50 w =>
  kV P (Instr.buildSlice 31 3 #[(0, v44), (1, v47), (2, v50)]) w fun v51 w =>
  kV P (Builtin.append_ #[31, 31] 31 #[(s0.getD 0 undef), v51]) w fun v52 w =>
  kV P (binV .add 3 (.tmp 9) (.const (.int .i64 1)) (s0.getD 1 undef) (.int .i64 1)) w fun v53 w =>
  R0 [v52, v53] w))
  (K (.tuple #[(s0.getD 0 undef), (.bool true)]) w)) [(.slice none 0 0), (.int .i64 0)] w
theorem F18_eq (P : Program) (t0 : Value) (w : World) (K : Value → World → Prop) : funE P ⟨[], [(3, [4, 9])], []⟩ Try.f18 [t0] w K = F18 P t0 w K := by kernel_rfl
theorem F18_ok (t0 : Value) (w : World) (K : Value → World → Prop) (h : F18 Try.prog t0 w K) : callsK Try.prog 18 #[t0] w K := calls_of_eq mixedS Try.func18 (F18_eq _ t0 w K) h

/-- mintmark/mintmarklaw29.one -/
def F19 (P : Program) (w : World) (K : Value → World → Prop) : Prop :=
  kV P (Instr.buildSlice 31 4 #[(0, (.int .u8 1)), (1, (.int .u8 0)), (2, (.int .u8 2)), (3, (.int .u8 5))]) w fun v4 w =>
  kN P (callN (.func (.func 15) #[] #[]) #[v4]) w fun v5 w =>
  kV P (binV .eql 36 (.tmp 6) (.const .nilFunc) v5 .nilFunc) w fun v7 w =>
  condK v7
  (K (.bool false) w)
  (kV P (Instr.alloc 3 true (.tuple #[])) w fun v2 w =>
  kV P (Instr.alloc 4 true (.tuple #[])) w fun v3 w =>
  kU P (Instr.storeAt 3 v2 (.int .i64 0)) w fun _ w =>
  kU P (Instr.storeAt 4 v3 (.bool true)) w fun _ w =>
  kN P (callN v5 #[(.func (.func 52) #[] #[v2, v3])]) w fun v10 w =>
  kV P (Instr.loadAt 3 v2) w fun v11 w =>
  kV P (binV .eql 3 (.tmp 11) (.const (.int .i64 1)) v11 (.int .i64 1)) w fun v12 w =>
  joinK (fun J0 : Value → World → Prop => gdK (yb v12) true (fun k => kV P (Instr.loadAt 4 v3) w k) w fun v14 w =>
  kN P (pickN v12 v14 (.bool false)) w fun v15_1 w =>
  J0 v15_1 w) fun v15 w =>
  K v15 w)
theorem F19_eq (P : Program) (w : World) (K : Value → World → Prop) : funE P ⟨[], [], []⟩ Try.f19 [] w K = F19 P  w K := by kernel_rfl
theorem F19_ok (w : World) (K : Value → World → Prop) (h : F19 Try.prog  w K) : callsK Try.prog 19 #[] w K := calls_of_eq mixedS Try.func19 (F19_eq _  w K) h

/-- mintmark/script.Steps$1 -/
def F51 (P : Program) (t0 t1 : Value) (w : World) (K : Value → World → Prop) : Prop :=
  kV P (Instr.loadAt 31 t1) w fun v5 w =>
  loopT (fun R0 s0 w => ∀ _ : Nat → Value,
  kV P (Builtin.len_ #[31] 3 #[(s0.getD 0 undef)]) w fun v7 w =>
  kV P (binV .geq 3 (.tmp 7) (.const (.int .i64 3)) v7 (.int .i64 3)) w fun v8 w =>
  condK v8
  (joinL (fun J2 =>
  drewK (fun w =>
  pV P (Instr.indexAt 31 (s0.getD 0 undef) (.int .i64 0)) fun v12 =>
  pV P (Instr.indexAt 31 (s0.getD 0 undef) (.int .i64 1)) fun v16 =>
  pV P (Instr.indexAt 31 (s0.getD 0 undef) (.int .i64 2)) fun v20 =>
  (kV P (Instr.loadAt 5 v12) w fun v13 w =>
  pV P (convert 5 3 v13) fun v14 =>
  (kV P (Instr.loadAt 5 v16) w fun v17 w =>
  pV P (convert 5 3 v17) fun v18 =>
  (kV P (Instr.loadAt 5 v20) w fun v21 w =>
  pV P (convert 5 3 v21) fun v22 =>
  pV P (Instr.build 39 #[(0, v14), (1, v18), (2, v22)]) fun v23 =>
  kV P (Instr.alloc 39 true (.tuple #[])) w fun v4 w =>
  kU P (Instr.storeAt 39 v4 v23) w fun _ w =>
  J2 [v4] w) ∧
  (kV P (Instr.alloc 39 true (.tuple #[])) w fun v4_1 w =>
  kV P (Instr.loadAt 5 v20) w fun v21_1 w =>
  pV P (convert 5 3 v21_1) fun v22_1 =>
  pV P (Instr.build 39 #[(0, v14), (1, v18), (2, v22_1)]) fun v23_1 =>
  kU P (Instr.storeAt 39 v4_1 v23_1) w fun _ w =>
  J2 [v4_1] w)) ∧
  (kV P (Instr.loadAt 5 v20) w fun v21_2 w =>
  pV P (convert 5 3 v21_2) fun v22_2 =>
  (kV P (Instr.loadAt 5 v16) w fun v17_1 w =>
  pV P (convert 5 3 v17_1) fun v18_1 =>
  pV P (Instr.build 39 #[(0, v14), (1, v18_1), (2, v22_2)]) fun v23_2 =>
  kV P (Instr.alloc 39 true (.tuple #[])) w fun v4_2 w =>
  kU P (Instr.storeAt 39 v4_2 v23_2) w fun _ w =>
  J2 [v4_2] w) ∧
  (kV P (Instr.alloc 39 true (.tuple #[])) w fun v4_3 w =>
  kV P (Instr.loadAt 5 v16) w fun v17_2 w =>
  pV P (convert 5 3 v17_2) fun v18_2 =>
  pV P (Instr.build 39 #[(0, v14), (1, v18_2), (2, v22_2)]) fun v23_3 =>
  kU P (Instr.storeAt 39 v4_3 v23_3) w fun _ w =>
  J2 [v4_3] w)) ∧
  (kV P (Instr.alloc 39 true (.tuple #[])) w fun v4_4 w =>
  (kV P (Instr.loadAt 5 v16) w fun v17_3 w =>
  pV P (convert 5 3 v17_3) fun v18_3 =>
  kV P (Instr.loadAt 5 v20) w fun v21_3 w =>
  pV P (convert 5 3 v21_3) fun v22_3 =>
  pV P (Instr.build 39 #[(0, v14), (1, v18_3), (2, v22_3)]) fun v23_4 =>
  kU P (Instr.storeAt 39 v4_4 v23_4) w fun _ w =>
  J2 [v4_4] w) ∧
  (kV P (Instr.loadAt 5 v20) w fun v21_4 w =>
  pV P (convert 5 3 v21_4) fun v22_4 =>
  kV P (Instr.loadAt 5 v16) w fun v17_4 w =>
  pV P (convert 5 3 v17_4) fun v18_4 =>
  pV P (Instr.build 39 #[(0, v14), (1, v18_4), (2, v22_4)]) fun v23_5 =>
  kU P (Instr.storeAt 39 v4_4 v23_5) w fun _ w =>
  J2 [v4_4] w))) ∧
  (kV P (Instr.loadAt 5 v16) w fun v17_5 w =>
  pV P (convert 5 3 v17_5) fun v18_5 =>
  (kV P (Instr.loadAt 5 v12) w fun v13_1 w =>
  pV P (convert 5 3 v13_1) fun v14_1 =>
  (kV P (Instr.loadAt 5 v20) w fun v21_5 w =>
  pV P (convert 5 3 v21_5) fun v22_5 =>
  pV P (Instr.build 39 #[(0, v14_1), (1, v18_5), (2, v22_5)]) fun v23_6 =>
  kV P (Instr.alloc 39 true (.tuple #[])) w fun v4_5 w =>
  kU P (Instr.storeAt 39 v4_5 v23_6) w fun _ w =>
  J2 [v4_5] w) ∧
  (kV P (Instr.alloc 39 true (.tuple #[])) w fun v4_6 w =>
  kV P (Instr.loadAt 5 v20) w fun v21_6 w =>
  pV P (convert 5 3 v21_6) fun v22_6 =>
  pV P (Instr.build 39 #[(0, v14_1), (1, v18_5), (2, v22_6)]) fun v23_7 =>
  kU P (Instr.storeAt 39 v4_6 v23_7) w fun _ w =>
  J2 [v4_6] w)) ∧
  (kV P (Instr.loadAt 5 v20) w fun v21_7 w =>
  pV P (convert 5 3 v21_7) fun v22_7 =>
  (kV P (Instr.loadAt 5 v12) w fun v13_2 w =>
  pV P (convert 5 3 v13_2) fun v14_2 =>
  pV P (Instr.build 39 #[(0, v14_2), (1, v18_5), (2, v22_7)]) fun v23_8 =>
  kV P (Instr.alloc 39 true (.tuple #[])) w fun v4_7 w =>
  kU P (Instr.storeAt 39 v4_7 v23_8) w fun _ w =>
  J2 [v4_7] w) ∧
  (kV P (Instr.alloc 39 true (.tuple #[])) w fun v4_8 w =>
  kV P (Instr.loadAt 5 v12) w fun v13_3 w =>
  pV P (convert 5 3 v13_3) fun v14_3 =>
  pV P (Instr.build 39 #[(0, v14_3), (1, v18_5), (2, v22_7)]) fun v23_9 =>
  kU P (Instr.storeAt 39 v4_8 v23_9) w fun _ w =>
  J2 [v4_8] w)) ∧
  (kV P (Instr.alloc 39 true (.tuple #[])) w fun v4_9 w =>
  (kV P (Instr.loadAt 5 v12) w fun v13_4 w =>
  pV P (convert 5 3 v13_4) fun v14_4 =>
  kV P (Instr.loadAt 5 v20) w fun v21_8 w =>
  pV P (convert 5 3 v21_8) fun v22_8 =>
  pV P (Instr.build 39 #[(0, v14_4), (1, v18_5), (2, v22_8)]) fun v23_10 =>
  kU P (Instr.storeAt 39 v4_9 v23_10) w fun _ w =>
  J2 [v4_9] w) ∧
  (kV P (Instr.loadAt 5 v20) w fun v21_9 w =>
  pV P (convert 5 3 v21_9) fun v22_9 =>
  kV P (Instr.loadAt 5 v12) w fun v13_5 w =>
  pV P (convert 5 3 v13_5) fun v14_5 =>
  pV P (Instr.build 39 #[(0, v14_5), (1, v18_5), (2, v22_9)]) fun v23_11 =>
  kU P (Instr.storeAt 39 v4_9 v23_11) w fun _ w =>
  J2 [v4_9] w))) ∧
  (kV P (Instr.loadAt 5 v20) w fun v21_10 w =>
  pV P (convert 5 3 v21_10) fun v22_10 =>
  (kV P (Instr.loadAt 5 v12) w fun v13_6 w =>
  pV P (convert 5 3 v13_6) fun v14_6 =>
  (kV P (Instr.loadAt 5 v16) w fun v17_6 w =>
  pV P (convert 5 3 v17_6) fun v18_6 =>
  pV P (Instr.build 39 #[(0, v14_6), (1, v18_6), (2, v22_10)]) fun v23_12 =>
  kV P (Instr.alloc 39 true (.tuple #[])) w fun v4_10 w =>
  kU P (Instr.storeAt 39 v4_10 v23_12) w fun _ w =>
  J2 [v4_10] w) ∧
  (kV P (Instr.alloc 39 true (.tuple #[])) w fun v4_11 w =>
  kV P (Instr.loadAt 5 v16) w fun v17_7 w =>
  pV P (convert 5 3 v17_7) fun v18_7 =>
  pV P (Instr.build 39 #[(0, v14_6), (1, v18_7), (2, v22_10)]) fun v23_13 =>
  kU P (Instr.storeAt 39 v4_11 v23_13) w fun _ w =>
  J2 [v4_11] w)) ∧
  (kV P (Instr.loadAt 5 v16) w fun v17_8 w =>
  pV P (convert 5 3 v17_8) fun v18_8 =>
  (kV P (Instr.loadAt 5 v12) w fun v13_7 w =>
  pV P (convert 5 3 v13_7) fun v14_7 =>
  pV P (Instr.build 39 #[(0, v14_7), (1, v18_8), (2, v22_10)]) fun v23_14 =>
  kV P (Instr.alloc 39 true (.tuple #[])) w fun v4_12 w =>
  kU P (Instr.storeAt 39 v4_12 v23_14) w fun _ w =>
  J2 [v4_12] w) ∧
  (kV P (Instr.alloc 39 true (.tuple #[])) w fun v4_13 w =>
  kV P (Instr.loadAt 5 v12) w fun v13_8 w =>
  pV P (convert 5 3 v13_8) fun v14_8 =>
  pV P (Instr.build 39 #[(0, v14_8), (1, v18_8), (2, v22_10)]) fun v23_15 =>
  kU P (Instr.storeAt 39 v4_13 v23_15) w fun _ w =>
  J2 [v4_13] w)) ∧
  (kV P (Instr.alloc 39 true (.tuple #[])) w fun v4_14 w =>
  (kV P (Instr.loadAt 5 v12) w fun v13_9 w =>
  pV P (convert 5 3 v13_9) fun v14_9 =>
  kV P (Instr.loadAt 5 v16) w fun v17_9 w =>
  pV P (convert 5 3 v17_9) fun v18_9 =>
  pV P (Instr.build 39 #[(0, v14_9), (1, v18_9), (2, v22_10)]) fun v23_16 =>
  kU P (Instr.storeAt 39 v4_14 v23_16) w fun _ w =>
  J2 [v4_14] w) ∧
  (kV P (Instr.loadAt 5 v16) w fun v17_10 w =>
  pV P (convert 5 3 v17_10) fun v18_10 =>
  kV P (Instr.loadAt 5 v12) w fun v13_10 w =>
  pV P (convert 5 3 v13_10) fun v14_10 =>
  pV P (Instr.build 39 #[(0, v14_10), (1, v18_10), (2, v22_10)]) fun v23_17 =>
  kU P (Instr.storeAt 39 v4_14 v23_17) w fun _ w =>
  J2 [v4_14] w))) ∧
  (kV P (Instr.alloc 39 true (.tuple #[])) w fun v4_15 w =>
  (kV P (Instr.loadAt 5 v12) w fun v13_11 w =>
  pV P (convert 5 3 v13_11) fun v14_11 =>
  (kV P (Instr.loadAt 5 v16) w fun v17_11 w =>
  pV P (convert 5 3 v17_11) fun v18_11 =>
  kV P (Instr.loadAt 5 v20) w fun v21_11 w =>
  pV P (convert 5 3 v21_11) fun v22_11 =>
  pV P (Instr.build 39 #[(0, v14_11), (1, v18_11), (2, v22_11)]) fun v23_18 =>
  kU P (Instr.storeAt 39 v4_15 v23_18) w fun _ w =>
  J2 [v4_15] w) ∧
  (kV P (Instr.loadAt 5 v20) w fun v21_12 w =>
  pV P (convert 5 3 v21_12) fun v22_12 =>
  kV P (Instr.loadAt 5 v16) w fun v17_12 w =>
  pV P (convert 5 3 v17_12) fun v18_12 =>
  pV P (Instr.build 39 #[(0, v14_11), (1, v18_12), (2, v22_12)]) fun v23_19 =>
  kU P (Instr.storeAt 39 v4_15 v23_19) w fun _ w =>
  J2 [v4_15] w)) ∧
  (kV P (Instr.loadAt 5 v16) w fun v17_13 w =>
  pV P (convert 5 3 v17_13) fun v18_13 =>
  (kV P (Instr.loadAt 5 v12) w fun v13_12 w =>
  pV P (convert 5 3 v13_12) fun v14_12 =>
  kV P (Instr.loadAt 5 v20) w fun v21_13 w =>
  pV P (convert 5 3 v21_13) fun v22_13 =>
  pV P (Instr.build 39 #[(0, v14_12), (1, v18_13), (2, v22_13)]) fun v23_20 =>
  kU P (Instr.storeAt 39 v4_15 v23_20) w fun _ w =>
  J2 [v4_15] w) ∧
  (kV P (Instr.loadAt 5 v20) w fun v21_14 w =>
  pV P (convert 5 3 v21_14) fun v22_14 =>
  kV P (Instr.loadAt 5 v12) w fun v13_13 w =>
  pV P (convert 5 3 v13_13) fun v14_13 =>
  pV P (Instr.build 39 #[(0, v14_13), (1, v18_13), (2, v22_14)]) fun v23_21 =>
  kU P (Instr.storeAt 39 v4_15 v23_21) w fun _ w =>
  J2 [v4_15] w)) ∧
  (kV P (Instr.loadAt 5 v20) w fun v21_15 w =>
  pV P (convert 5 3 v21_15) fun v22_15 =>
  (kV P (Instr.loadAt 5 v12) w fun v13_14 w =>
  pV P (convert 5 3 v13_14) fun v14_14 =>
  kV P (Instr.loadAt 5 v16) w fun v17_14 w =>
  pV P (convert 5 3 v17_14) fun v18_14 =>
  pV P (Instr.build 39 #[(0, v14_14), (1, v18_14), (2, v22_15)]) fun v23_22 =>
  kU P (Instr.storeAt 39 v4_15 v23_22) w fun _ w =>
  J2 [v4_15] w) ∧
  (kV P (Instr.loadAt 5 v16) w fun v17_15 w =>
  pV P (convert 5 3 v17_15) fun v18_15 =>
  kV P (Instr.loadAt 5 v12) w fun v13_15 w =>
  pV P (convert 5 3 v13_15) fun v14_15 =>
  pV P (Instr.build 39 #[(0, v14_15), (1, v18_15), (2, v22_15)]) fun v23_23 =>
  kU P (Instr.storeAt 39 v4_15 v23_23) w fun _ w =>
  J2 [v4_15] w)))) w) fun s2 w => ∀ _ : Nat → Value,
  joinL (fun J4 =>
  kV P (Instr.fieldAt 39 (s2.getD 0 undef) 0) w fun v24 w =>
  kV P (Instr.loadAt 3 v24) w fun v25 w =>
  kV P (binV .gtr 3 (.tmp 25) (.const (.int .i64 9)) v25 (.int .i64 9)) w fun v26 w =>
  condK v26
  (kV P (Instr.fieldAt 39 (s2.getD 0 undef) 0) w fun v27 w =>
  kU P (Instr.storeAt 3 v27 (.int .i64 0)) w fun _ w =>
  J4 [] w)
  (J4 [] w)) fun s4 w => ∀ _ : Nat → Value,
  kV P (Instr.loadAt 39 (s2.getD 0 undef)) w fun v29 w =>
  kN P (callN t0 #[v29]) w fun v30 w =>
  kV P (Op.unary .not v30) w fun v31 w =>
  condK v31
  (K (.tuple #[]) w)
  (kV P (Instr.sliceAt 31 (s0.getD 0 undef) (some (.int .i64 3)) none none) w fun v10 w =>
  R0 [v10] w))
  (K (.tuple #[]) w)) [v5] w
theorem F51_eq (P : Program) (t0 t1 : Value) (w : World) (K : Value → World → Prop) : funE P ⟨[(3, 999)], [(1, [3])], [(4, [4]), (6, [])]⟩ Try.f51 [t0, t1] w K = F51 P t0 t1 w K := by kernel_rfl
theorem F51_ok (t0 t1 : Value) (w : World) (K : Value → World → Prop) (h : F51 Try.prog t0 t1 w K) : callsK Try.prog 51 #[t0, t1] w K := calls_of_eq mixedS Try.func51 (F51_eq _ t0 t1 w K) h

/-- mintmark/mintmarklaw29.one$1 -/
def F52 (P : Program) (t0 t1 t2 : Value) (w : World) (K : Value → World → Prop) : Prop :=
  kV P (Instr.box 39 t0) w fun v3 w =>
  kV P (Instr.loadAt 3 t1) w fun v5 w =>
  kV P (binV .add 3 (.tmp 5) (.const (.int .i64 1)) v5 (.int .i64 1)) w fun v6 w =>
  kU P (Instr.storeAt 3 t1 v6) w fun _ w =>
  kV P (Instr.loadAt 4 t2) w fun v7 w =>
  joinK (fun J0 : Value → World → Prop => gdK (yb v7) true (fun k => kV P (Instr.loadAt 39 v3) w k) w fun v9 w =>
  gdK (yb v7) true (fun k => kV P (Instr.build 39 #[(0, (.int .i64 1)), (2, (.int .i64 2))]) w k) w fun v10 w =>
  gdK (yb v7) true (fun k => kV P (binV .eql 39 (.tmp 9) (.tmp 10) v9 v10) w k) w fun v11 w =>
  kN P (pickN v7 v11 (.bool false)) w fun v12_1 w =>
  J0 v12_1 w) fun v12 w =>
  kU P (Instr.storeAt 4 t2 v12) w fun _ w =>
  K (.bool true) w
theorem F52_eq (P : Program) (t0 t1 t2 : Value) (w : World) (K : Value → World → Prop) : funE P ⟨[], [], []⟩ Try.f52 [t0, t1, t2] w K = F52 P t0 t1 t2 w K := by kernel_rfl
theorem F52_ok (t0 t1 t2 : Value) (w : World) (K : Value → World → Prop) (h : F52 Try.prog t0 t1 t2 w K) : callsK Try.prog 52 #[t0, t1, t2] w K := calls_of_eq mixedS Try.func52 (F52_eq _ t0 t1 t2 w K) h

end Go.Proofs.Ytlklhempbpphhaa
