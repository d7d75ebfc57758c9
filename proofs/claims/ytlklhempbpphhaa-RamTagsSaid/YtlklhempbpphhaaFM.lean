/- The formulas of functions of this seat, each tied to its calls; conditions: none. -/
import Derived.Test.YtlklhempbpphhaaProg
import Derived.Test.YtlklhempbpphhaaFx
import Derived.KernelRfl
namespace Go.Proofs.Ytlklhempbpphhaa
open Go.Fx
set_option linter.unusedVariables false
set_option linter.constructorNameAsVariable false
set_option maxRecDepth 100000
theorem mixedM : Try.prog.follows .mixedOrders = true := by kernel_rfl
/-- mintmark/mintmarklaw08.RamNumbers -/
def F8 (P : Program) (t0 t1 t2 : Value) (w : World) (K : Value → World → Prop) : Prop :=
  kN P (callN (.func (.func 35) #[] #[]) #[(.int .i64 2)]) w fun v23 w =>
  kV P (Instr.extract v23 0) w fun v24 w =>
  kV P (Instr.extract v23 1) w fun v25 w =>
  kV P (binV .neq 91 (.tmp 26) (.const (.int .i64 0)) v25 (.int .i64 0)) w fun v27 w =>
  joinK (fun J0 : Value → World → Prop => gdK (yb v27) false (fun k => k v24 w) w fun v29 w =>
  gdK (yb v27) false (fun k => kV P (binV .eql 90 (.tmp 29) (.const (.pointer none)) v29 (.pointer none)) w k) w fun v30 w =>
  kN P (pickN v27 (.bool true) v30) w fun v31_1 w =>
  J0 v31_1 w) fun v31 w =>
  condK v31
  (K (.bool false) w)
  (kV P (binV .and 3 (.tmp 32) (.const (.int .i64 3)) t2 (.int .i64 3)) w fun v33 w =>
  kV P (convert 3 94 v33) w fun v34 w =>
  kV P (binV .shl 3 (.const (.int .i64 1)) (.tmp 34) (.int .i64 1) v34) w fun v35 w =>
  kV P (binV .and 3 (.tmp 36) (.const (.int .i64 8191)) t0 (.int .i64 8191)) w fun v37 w =>
  kV P (binV .add 3 (.const (.int .i64 8)) (.tmp 37) (.int .i64 8) v37) w fun v38 w =>
  kV P (convert 3 22 v38) w fun v39 w =>
  kV P (convert 3 22 v35) w fun v41 w =>
  kV P (binV .quo 22 (.tmp 39) (.tmp 41) v39 v41) w fun v42 w =>
  kV P (convert 3 22 v35) w fun v44 w =>
  kV P (binV .mul 22 (.tmp 42) (.tmp 44) v42 v44) w fun v45 w =>
  kV P (binV .rem 22 (.tmp 45) (.const (.int .u64 8184)) v45 (.int .u64 8184)) w fun v46 w =>
  joinL (fun J1 =>
  kV P (binV .lss 22 (.tmp 47) (.const (.int .u64 8)) v46 (.int .u64 8)) w fun v48 w =>
  condK v48
  (J1 [(.int .u64 8)] w)
  (J1 [v46] w)) fun s1 w => ∀ _ : Nat → Value,
  kV P (binV .sub 22 (.tmp 49) (.const (.int .u64 1)) (s1.getD 0 undef) (.int .u64 1)) w fun v50 w =>
  kV P (convert 3 22 v35) w fun v53 w =>
  kV P (binV .add 22 (.tmp 51) (.tmp 53) (s1.getD 0 undef) v53) w fun v54 w =>
  kN P (callN (.func (.func 36) #[] #[]) #[v24, v50, (.int .i64 1), (.int .u64 90)]) w fun v57 w =>
  kN P (callN (.func (.func 36) #[] #[]) #[v24, v54, (.int .i64 1), (.int .u64 165)]) w fun v60 w =>
  kN P (callN (.func (.func 36) #[] #[]) #[v24, (s1.getD 0 undef), v35, t1]) w fun v65 w =>
  kV P (binV .neq 91 (.tmp 65) (.const (.int .i64 0)) v65 (.int .i64 0)) w fun v66 w =>
  condK v66
  (K (.bool false) w)
  (kN P (callN (.func (.func 37) #[] #[]) #[v24, (s1.getD 0 undef), v35]) w fun v71 w =>
  kV P (Instr.extract v71 0) w fun v72 w =>
  kV P (Instr.extract v71 1) w fun v73 w =>
  kN P (callN (.func (.func 37) #[] #[]) #[v24, v50, (.int .i64 1)]) w fun v77 w =>
  kV P (Instr.extract v77 0) w fun v78 w =>
  kV P (Instr.extract v77 1) w fun v79 w =>
  kN P (callN (.func (.func 37) #[] #[]) #[v24, v54, (.int .i64 1)]) w fun v83 w =>
  kV P (Instr.extract v83 0) w fun v84 w =>
  kV P (Instr.extract v83 1) w fun v85 w =>
  loopT (fun R3 s3 w => ∀ _ : Nat → Value,
  kV P (binV .lss 3 (.tmp 86) (.tmp 87) (s3.getD 0 undef) v35) w fun v88 w =>
  condK v88
  (kV P (convert 3 22 (s3.getD 0 undef)) w fun v95 w =>
  kV P (binV .add 22 (.tmp 93) (.tmp 95) (s1.getD 0 undef) v95) w fun v96 w =>
  kN P (callN (.func (.func 37) #[] #[]) #[v24, v96, (.int .i64 1)]) w fun v97 w =>
  kV P (Instr.extract v97 0) w fun v98 w =>
  kV P (Instr.extract v97 1) w fun v99 w =>
  kV P (binV .mul 3 (.const (.int .i64 8)) (.tmp 102) (.int .i64 8) (s3.getD 0 undef)) w fun v103 w =>
  kV P (convert 3 94 v103) w fun v104 w =>
  kV P (binV .shr 22 (.tmp 101) (.tmp 104) t1 v104) w fun v105 w =>
  kV P (binV .and 22 (.tmp 105) (.const (.int .u64 255)) v105 (.int .u64 255)) w fun v106 w =>
  kV P (binV .neq 22 (.tmp 100) (.tmp 106) v98 v106) w fun v107 w =>
  condK v107
  (K (.bool false) w)
  (kV P (binV .add 3 (.tmp 89) (.const (.int .i64 1)) (s3.getD 0 undef) (.int .i64 1)) w fun v90 w =>
  R3 [v90] w))
  (kV P (binV .eql 22 (.tmp 108) (.const (.int .u64 90)) v78 (.int .u64 90)) w fun v109 w =>
  joinK (fun J5 : Value → World → Prop => gdK (yb v109) true (fun k => k v84 w) w fun v111 w =>
  gdK (yb v109) true (fun k => kV P (binV .eql 22 (.tmp 111) (.const (.int .u64 165)) v111 (.int .u64 165)) w k) w fun v112 w =>
  kN P (pickN v109 v112 (.bool false)) w fun v113_1 w =>
  J5 v113_1 w) fun v113 w =>
  joinK (fun J6 : Value → World → Prop => gdK (yb v113) true (fun k => k v35 w) w fun v115 w =>
  gdK (yb v113) true (fun k => kV P (binV .eql 3 (.tmp 115) (.const (.int .i64 8)) v115 (.int .i64 8)) w k) w fun v116 w =>
  gdK (yb v113) true (fun k => k v116 w) w fun v117 w =>
  gdK (yb v117) true (fun k => k v72 w) w fun v118 w =>
  gdK (yb v117) true (fun k => k t1 w) w fun v119 w =>
  gdK (yb v117) true (fun k => kV P (binV .eql 22 (.tmp 118) (.tmp 119) v118 v119) w k) w fun v120 w =>
  gdK (yb v113) true (fun k => kN P (pickN v117 v120 (.bool false)) w k) w fun v121 w =>
  gdK (yb v113) true (fun k => k v121 w) w fun v122 w =>
  gdK (yb v122) false (fun k => k v35 w) w fun v123 w =>
  gdK (yb v122) false (fun k => kV P (binV .lss 3 (.tmp 123) (.const (.int .i64 8)) v123 (.int .i64 8)) w k) w fun v124 w =>
  gdK (yb v122) false (fun k => k v124 w) w fun v125 w =>
  gdK (yb v125) true (fun k => k v72 w) w fun v126 w =>
  gdK (yb v125) true (fun k => k t1 w) w fun v127 w =>
  gdK (yb v125) true (fun k => k v35 w) w fun v128 w =>
  gdK (yb v125) true (fun k => kV P (binV .mul 3 (.const (.int .i64 8)) (.tmp 128) (.int .i64 8) v128) w k) w fun v129 w =>
  gdK (yb v125) true (fun k => kV P (convert 3 94 v129) w k) w fun v130 w =>
  gdK (yb v125) true (fun k => kV P (binV .shl 22 (.const (.int .u64 1)) (.tmp 130) (.int .u64 1) v130) w k) w fun v131 w =>
  gdK (yb v125) true (fun k => kV P (binV .sub 22 (.tmp 131) (.const (.int .u64 1)) v131 (.int .u64 1)) w k) w fun v132 w =>
  gdK (yb v125) true (fun k => kV P (binV .and 22 (.tmp 127) (.tmp 132) v127 v132) w k) w fun v133 w =>
  gdK (yb v125) true (fun k => kV P (binV .eql 22 (.tmp 126) (.tmp 133) v126 v133) w k) w fun v134 w =>
  gdK (yb v122) false (fun k => kN P (pickN v125 v134 (.bool false)) w k) w fun v135 w =>
  gdK (yb v113) true (fun k => kN P (pickN v122 (.bool true) v135) w k) w fun v136 w =>
  kN P (pickN v113 v136 (.bool false)) w fun v137_1 w =>
  J6 v137_1 w) fun v137 w =>
  K v137 w)) [(.int .i64 0)] w))
theorem F8_eq (P : Program) (t0 t1 t2 : Value) (w : World) (K : Value → World → Prop) : funE P ⟨[], [(17, [19])], [(8, [10])]⟩ Try.f8 [t0, t1, t2] w K = F8 P t0 t1 t2 w K := by kernel_rfl
theorem F8_ok (t0 t1 t2 : Value) (w : World) (K : Value → World → Prop) (h : F8 Try.prog t0 t1 t2 w K) : callsK Try.prog 8 #[t0, t1, t2] w K := calls_of_eq mixedM Try.func8 (F8_eq _ t0 t1 t2 w K) h

/-- mintmark/mintmarklaw08.RamTags -/
def F10 (P : Program) (t0 t1 t2 : Value) (w : World) (K : Value → World → Prop) : Prop :=
  kV P (Instr.box 109 t0) w fun v3 w =>
  kN P (callN (.func (.func 35) #[] #[]) #[(.int .i64 2)]) w fun v20 w =>
  kV P (Instr.extract v20 0) w fun v21 w =>
  kV P (Instr.extract v20 1) w fun v22 w =>
  kV P (binV .neq 91 (.tmp 23) (.const (.int .i64 0)) v22 (.int .i64 0)) w fun v24 w =>
  joinK (fun J0 : Value → World → Prop => gdK (yb v24) false (fun k => k v21 w) w fun v26 w =>
  gdK (yb v24) false (fun k => kV P (binV .eql 90 (.tmp 26) (.const (.pointer none)) v26 (.pointer none)) w k) w fun v27 w =>
  kN P (pickN v24 (.bool true) v27) w fun v28_1 w =>
  J0 v28_1 w) fun v28 w =>
  condK v28
  (K (.bool false) w)
  (kV P (binV .and 3 (.tmp 29) (.const (.int .i64 511)) t1 (.int .i64 511)) w fun v30 w =>
  kV P (convert 3 22 v30) w fun v31 w =>
  kV P (binV .mul 22 (.tmp 31) (.const (.int .u64 16)) v31 (.int .u64 16)) w fun v32 w =>
  kV P (Instr.loadAt 109 v3) w fun v35 w =>
  kN P (callN (.func (.func 43) #[] #[]) #[v21, v32, v35]) w fun v36 w =>
  kV P (binV .neq 91 (.tmp 36) (.const (.int .i64 0)) v36 (.int .i64 0)) w fun v37 w =>
  condK v37
  (K (.bool false) w)
  (kV P (binV .and 3 (.tmp 38) (.const (.int .i64 8191)) t2 (.int .i64 8191)) w fun v39 w =>
  kV P (convert 3 22 v39) w fun v40 w =>
  kN P (callN (.func (.func 36) #[] #[]) #[v21, v40, (.int .i64 1), (.int .u64 171)]) w fun v43 w =>
  kV P (binV .neq 91 (.tmp 43) (.const (.int .i64 0)) v43 (.int .i64 0)) w fun v44 w =>
  condK v44
  (K (.bool false) w)
  (kN P (callN (.func (.func 44) #[] #[]) #[v21, v32]) w fun v48 w =>
  kV P (Instr.extract v48 0) w fun v49 w =>
  kV P (Instr.extract v48 1) w fun v50 w =>
  kV P (Instr.alloc 109 true (.tuple #[])) w fun v11 w =>
  kU P (Instr.storeAt 109 v11 v49) w fun _ w =>
  kN P (callN (.func (.func 37) #[] #[]) #[v21, v40, (.int .i64 1)]) w fun v54 w =>
  kV P (Instr.extract v54 0) w fun v55 w =>
  kV P (Instr.extract v54 1) w fun v56 w =>
  kV P (binV .quo 22 (.tmp 57) (.const (.int .u64 16)) v40 (.int .u64 16)) w fun v58 w =>
  kV P (binV .quo 22 (.tmp 59) (.const (.int .u64 16)) v32 (.int .u64 16)) w fun v60 w =>
  kV P (binV .eql 22 (.tmp 58) (.tmp 60) v58 v60) w fun v61 w =>
  kV P (binV .neq 22 (.tmp 62) (.const (.int .u64 171)) v55 (.int .u64 171)) w fun v63 w =>
  joinK (fun J1 : Value → World → Prop => gdK (yb v63) false (fun k => k v61 w) w fun v65 w =>
  gdK (yb v63) false (fun k => k v65 w) w fun v66 w =>
  gdK (yb v66) true (fun k => kV P (Instr.fieldAt 109 v11 0) w k) w fun v67 w =>
  gdK (yb v66) true (fun k => kV P (Instr.loadAt 4 v67) w k) w fun v68 w =>
  gdK (yb v63) false (fun k => kN P (pickN v66 v68 (.bool false)) w k) w fun v69 w =>
  kN P (pickN v63 (.bool true) v69) w fun v70_1 w =>
  J1 v70_1 w) fun v70 w =>
  joinK (fun J2 : Value → World → Prop => gdK (yb v70) false (fun k => k v61 w) w fun v72 w =>
  gdK (yb v70) false (fun k => kV P (Op.unary .not v72) w k) w fun v73 w =>
  gdK (yb v70) false (fun k => k v73 w) w fun v74 w =>
  gdK (yb v74) true (fun k => kV P (Instr.loadAt 109 v11) w k) w fun v75 w =>
  gdK (yb v74) true (fun k => kV P (Instr.loadAt 109 v3) w k) w fun v76 w =>
  gdK (yb v74) true (fun k => kV P (binV .neq 109 (.tmp 75) (.tmp 76) v75 v76) w k) w fun v77 w =>
  gdK (yb v70) false (fun k => kN P (pickN v74 v77 (.bool false)) w k) w fun v78 w =>
  kN P (pickN v70 (.bool true) v78) w fun v79_1 w =>
  J2 v79_1 w) fun v79 w =>
  condK v79
  (K (.bool false) w)
  (joinL (fun J3 =>
  drewK (fun w =>
  (kV P (Instr.loadAt 109 v3) w fun v80 w =>
  (kN P (callN (.func (.func 45) #[] #[]) #[v80]) w fun v81 w =>
  (kV P (Instr.loadAt 109 v11) w fun v82 w =>
  (kN P (callN (.func (.func 45) #[] #[]) #[v82]) w fun v83 w =>
  (kV P (Instr.alloc 113 true (.tuple #[])) w fun v16 w =>
  kV P (Instr.alloc 113 true (.tuple #[])) w fun v17 w =>
  kU P (Instr.storeAt 113 v16 v81) w fun _ w =>
  kU P (Instr.storeAt 113 v17 v83) w fun _ w =>
  J3 [v16, v17] w) ∧
  (kV P (Instr.alloc 113 true (.tuple #[])) w fun v17_1 w =>
  kV P (Instr.alloc 113 true (.tuple #[])) w fun v16_1 w =>
  kU P (Instr.storeAt 113 v16_1 v81) w fun _ w =>
  kU P (Instr.storeAt 113 v17_1 v83) w fun _ w =>
  J3 [v16_1, v17_1] w)) ∧
  (kV P (Instr.alloc 113 true (.tuple #[])) w fun v16_2 w =>
  (kN P (callN (.func (.func 45) #[] #[]) #[v82]) w fun v83_1 w =>
  kV P (Instr.alloc 113 true (.tuple #[])) w fun v17_2 w =>
  kU P (Instr.storeAt 113 v16_2 v81) w fun _ w =>
  kU P (Instr.storeAt 113 v17_2 v83_1) w fun _ w =>
  J3 [v16_2, v17_2] w) ∧
  (kV P (Instr.alloc 113 true (.tuple #[])) w fun v17_3 w =>
  kN P (callN (.func (.func 45) #[] #[]) #[v82]) w fun v83_2 w =>
  kU P (Instr.storeAt 113 v16_2 v81) w fun _ w =>
  kU P (Instr.storeAt 113 v17_3 v83_2) w fun _ w =>
  J3 [v16_2, v17_3] w)) ∧
  (kV P (Instr.alloc 113 true (.tuple #[])) w fun v17_4 w =>
  (kN P (callN (.func (.func 45) #[] #[]) #[v82]) w fun v83_3 w =>
  kV P (Instr.alloc 113 true (.tuple #[])) w fun v16_3 w =>
  kU P (Instr.storeAt 113 v16_3 v81) w fun _ w =>
  kU P (Instr.storeAt 113 v17_4 v83_3) w fun _ w =>
  J3 [v16_3, v17_4] w) ∧
  (kV P (Instr.alloc 113 true (.tuple #[])) w fun v16_4 w =>
  kN P (callN (.func (.func 45) #[] #[]) #[v82]) w fun v83_4 w =>
  kU P (Instr.storeAt 113 v16_4 v81) w fun _ w =>
  kU P (Instr.storeAt 113 v17_4 v83_4) w fun _ w =>
  J3 [v16_4, v17_4] w))) ∧
  (kV P (Instr.alloc 113 true (.tuple #[])) w fun v16_5 w =>
  (kV P (Instr.loadAt 109 v11) w fun v82_1 w =>
  (kN P (callN (.func (.func 45) #[] #[]) #[v82_1]) w fun v83_5 w =>
  kV P (Instr.alloc 113 true (.tuple #[])) w fun v17_5 w =>
  kU P (Instr.storeAt 113 v16_5 v81) w fun _ w =>
  kU P (Instr.storeAt 113 v17_5 v83_5) w fun _ w =>
  J3 [v16_5, v17_5] w) ∧
  (kV P (Instr.alloc 113 true (.tuple #[])) w fun v17_6 w =>
  kN P (callN (.func (.func 45) #[] #[]) #[v82_1]) w fun v83_6 w =>
  kU P (Instr.storeAt 113 v16_5 v81) w fun _ w =>
  kU P (Instr.storeAt 113 v17_6 v83_6) w fun _ w =>
  J3 [v16_5, v17_6] w)) ∧
  (kV P (Instr.alloc 113 true (.tuple #[])) w fun v17_7 w =>
  kV P (Instr.loadAt 109 v11) w fun v82_2 w =>
  kN P (callN (.func (.func 45) #[] #[]) #[v82_2]) w fun v83_7 w =>
  kU P (Instr.storeAt 113 v16_5 v81) w fun _ w =>
  kU P (Instr.storeAt 113 v17_7 v83_7) w fun _ w =>
  J3 [v16_5, v17_7] w)) ∧
  (kV P (Instr.alloc 113 true (.tuple #[])) w fun v17_8 w =>
  (kV P (Instr.loadAt 109 v11) w fun v82_3 w =>
  (kN P (callN (.func (.func 45) #[] #[]) #[v82_3]) w fun v83_8 w =>
  kV P (Instr.alloc 113 true (.tuple #[])) w fun v16_6 w =>
  kU P (Instr.storeAt 113 v16_6 v81) w fun _ w =>
  kU P (Instr.storeAt 113 v17_8 v83_8) w fun _ w =>
  J3 [v16_6, v17_8] w) ∧
  (kV P (Instr.alloc 113 true (.tuple #[])) w fun v16_7 w =>
  kN P (callN (.func (.func 45) #[] #[]) #[v82_3]) w fun v83_9 w =>
  kU P (Instr.storeAt 113 v16_7 v81) w fun _ w =>
  kU P (Instr.storeAt 113 v17_8 v83_9) w fun _ w =>
  J3 [v16_7, v17_8] w)) ∧
  (kV P (Instr.alloc 113 true (.tuple #[])) w fun v16_8 w =>
  kV P (Instr.loadAt 109 v11) w fun v82_4 w =>
  kN P (callN (.func (.func 45) #[] #[]) #[v82_4]) w fun v83_10 w =>
  kU P (Instr.storeAt 113 v16_8 v81) w fun _ w =>
  kU P (Instr.storeAt 113 v17_8 v83_10) w fun _ w =>
  J3 [v16_8, v17_8] w))) ∧
  (kV P (Instr.loadAt 109 v11) w fun v82_5 w =>
  (kN P (callN (.func (.func 45) #[] #[]) #[v80]) w fun v81_1 w =>
  (kN P (callN (.func (.func 45) #[] #[]) #[v82_5]) w fun v83_11 w =>
  (kV P (Instr.alloc 113 true (.tuple #[])) w fun v16_9 w =>
  kV P (Instr.alloc 113 true (.tuple #[])) w fun v17_9 w =>
  kU P (Instr.storeAt 113 v16_9 v81_1) w fun _ w =>
  kU P (Instr.storeAt 113 v17_9 v83_11) w fun _ w =>
  J3 [v16_9, v17_9] w) ∧
  (kV P (Instr.alloc 113 true (.tuple #[])) w fun v17_10 w =>
  kV P (Instr.alloc 113 true (.tuple #[])) w fun v16_10 w =>
  kU P (Instr.storeAt 113 v16_10 v81_1) w fun _ w =>
  kU P (Instr.storeAt 113 v17_10 v83_11) w fun _ w =>
  J3 [v16_10, v17_10] w)) ∧
  (kV P (Instr.alloc 113 true (.tuple #[])) w fun v16_11 w =>
  (kN P (callN (.func (.func 45) #[] #[]) #[v82_5]) w fun v83_12 w =>
  kV P (Instr.alloc 113 true (.tuple #[])) w fun v17_11 w =>
  kU P (Instr.storeAt 113 v16_11 v81_1) w fun _ w =>
  kU P (Instr.storeAt 113 v17_11 v83_12) w fun _ w =>
  J3 [v16_11, v17_11] w) ∧
  (kV P (Instr.alloc 113 true (.tuple #[])) w fun v17_12 w =>
  kN P (callN (.func (.func 45) #[] #[]) #[v82_5]) w fun v83_13 w =>
  kU P (Instr.storeAt 113 v16_11 v81_1) w fun _ w =>
  kU P (Instr.storeAt 113 v17_12 v83_13) w fun _ w =>
  J3 [v16_11, v17_12] w)) ∧
  (kV P (Instr.alloc 113 true (.tuple #[])) w fun v17_13 w =>
  (kN P (callN (.func (.func 45) #[] #[]) #[v82_5]) w fun v83_14 w =>
  kV P (Instr.alloc 113 true (.tuple #[])) w fun v16_12 w =>
  kU P (Instr.storeAt 113 v16_12 v81_1) w fun _ w =>
  kU P (Instr.storeAt 113 v17_13 v83_14) w fun _ w =>
  J3 [v16_12, v17_13] w) ∧
  (kV P (Instr.alloc 113 true (.tuple #[])) w fun v16_13 w =>
  kN P (callN (.func (.func 45) #[] #[]) #[v82_5]) w fun v83_15 w =>
  kU P (Instr.storeAt 113 v16_13 v81_1) w fun _ w =>
  kU P (Instr.storeAt 113 v17_13 v83_15) w fun _ w =>
  J3 [v16_13, v17_13] w))) ∧
  (kV P (Instr.alloc 113 true (.tuple #[])) w fun v16_14 w =>
  (kN P (callN (.func (.func 45) #[] #[]) #[v80]) w fun v81_2 w =>
  (kN P (callN (.func (.func 45) #[] #[]) #[v82_5]) w fun v83_16 w =>
  kV P (Instr.alloc 113 true (.tuple #[])) w fun v17_14 w =>
  kU P (Instr.storeAt 113 v16_14 v81_2) w fun _ w =>
  kU P (Instr.storeAt 113 v17_14 v83_16) w fun _ w =>
  J3 [v16_14, v17_14] w) ∧
  (kV P (Instr.alloc 113 true (.tuple #[])) w fun v17_15 w =>
  kN P (callN (.func (.func 45) #[] #[]) #[v82_5]) w fun v83_17 w =>
  kU P (Instr.storeAt 113 v16_14 v81_2) w fun _ w =>
  kU P (Instr.storeAt 113 v17_15 v83_17) w fun _ w =>
  J3 [v16_14, v17_15] w)) ∧
  (kV P (Instr.alloc 113 true (.tuple #[])) w fun v17_16 w =>
  kN P (callN (.func (.func 45) #[] #[]) #[v80]) w fun v81_3 w =>
  kN P (callN (.func (.func 45) #[] #[]) #[v82_5]) w fun v83_18 w =>
  kU P (Instr.storeAt 113 v16_14 v81_3) w fun _ w =>
  kU P (Instr.storeAt 113 v17_16 v83_18) w fun _ w =>
  J3 [v16_14, v17_16] w)) ∧
  (kV P (Instr.alloc 113 true (.tuple #[])) w fun v17_17 w =>
  (kN P (callN (.func (.func 45) #[] #[]) #[v80]) w fun v81_4 w =>
  (kN P (callN (.func (.func 45) #[] #[]) #[v82_5]) w fun v83_19 w =>
  kV P (Instr.alloc 113 true (.tuple #[])) w fun v16_15 w =>
  kU P (Instr.storeAt 113 v16_15 v81_4) w fun _ w =>
  kU P (Instr.storeAt 113 v17_17 v83_19) w fun _ w =>
  J3 [v16_15, v17_17] w) ∧
  (kV P (Instr.alloc 113 true (.tuple #[])) w fun v16_16 w =>
  kN P (callN (.func (.func 45) #[] #[]) #[v82_5]) w fun v83_20 w =>
  kU P (Instr.storeAt 113 v16_16 v81_4) w fun _ w =>
  kU P (Instr.storeAt 113 v17_17 v83_20) w fun _ w =>
  J3 [v16_16, v17_17] w)) ∧
  (kV P (Instr.alloc 113 true (.tuple #[])) w fun v16_17 w =>
  kN P (callN (.func (.func 45) #[] #[]) #[v80]) w fun v81_5 w =>
  kN P (callN (.func (.func 45) #[] #[]) #[v82_5]) w fun v83_21 w =>
  kU P (Instr.storeAt 113 v16_17 v81_5) w fun _ w =>
  kU P (Instr.storeAt 113 v17_17 v83_21) w fun _ w =>
  J3 [v16_17, v17_17] w))) ∧
  (kV P (Instr.alloc 113 true (.tuple #[])) w fun v16_18 w =>
  (kN P (callN (.func (.func 45) #[] #[]) #[v80]) w fun v81_6 w =>
  (kV P (Instr.loadAt 109 v11) w fun v82_6 w =>
  (kN P (callN (.func (.func 45) #[] #[]) #[v82_6]) w fun v83_22 w =>
  kV P (Instr.alloc 113 true (.tuple #[])) w fun v17_18 w =>
  kU P (Instr.storeAt 113 v16_18 v81_6) w fun _ w =>
  kU P (Instr.storeAt 113 v17_18 v83_22) w fun _ w =>
  J3 [v16_18, v17_18] w) ∧
  (kV P (Instr.alloc 113 true (.tuple #[])) w fun v17_19 w =>
  kN P (callN (.func (.func 45) #[] #[]) #[v82_6]) w fun v83_23 w =>
  kU P (Instr.storeAt 113 v16_18 v81_6) w fun _ w =>
  kU P (Instr.storeAt 113 v17_19 v83_23) w fun _ w =>
  J3 [v16_18, v17_19] w)) ∧
  (kV P (Instr.alloc 113 true (.tuple #[])) w fun v17_20 w =>
  kV P (Instr.loadAt 109 v11) w fun v82_7 w =>
  kN P (callN (.func (.func 45) #[] #[]) #[v82_7]) w fun v83_24 w =>
  kU P (Instr.storeAt 113 v16_18 v81_6) w fun _ w =>
  kU P (Instr.storeAt 113 v17_20 v83_24) w fun _ w =>
  J3 [v16_18, v17_20] w)) ∧
  (kV P (Instr.loadAt 109 v11) w fun v82_8 w =>
  (kN P (callN (.func (.func 45) #[] #[]) #[v80]) w fun v81_7 w =>
  (kN P (callN (.func (.func 45) #[] #[]) #[v82_8]) w fun v83_25 w =>
  kV P (Instr.alloc 113 true (.tuple #[])) w fun v17_21 w =>
  kU P (Instr.storeAt 113 v16_18 v81_7) w fun _ w =>
  kU P (Instr.storeAt 113 v17_21 v83_25) w fun _ w =>
  J3 [v16_18, v17_21] w) ∧
  (kV P (Instr.alloc 113 true (.tuple #[])) w fun v17_22 w =>
  kN P (callN (.func (.func 45) #[] #[]) #[v82_8]) w fun v83_26 w =>
  kU P (Instr.storeAt 113 v16_18 v81_7) w fun _ w =>
  kU P (Instr.storeAt 113 v17_22 v83_26) w fun _ w =>
  J3 [v16_18, v17_22] w)) ∧
  (kV P (Instr.alloc 113 true (.tuple #[])) w fun v17_23 w =>
  kN P (callN (.func (.func 45) #[] #[]) #[v80]) w fun v81_8 w =>
  kN P (callN (.func (.func 45) #[] #[]) #[v82_8]) w fun v83_27 w =>
  kU P (Instr.storeAt 113 v16_18 v81_8) w fun _ w =>
  kU P (Instr.storeAt 113 v17_23 v83_27) w fun _ w =>
  J3 [v16_18, v17_23] w)) ∧
  (kV P (Instr.alloc 113 true (.tuple #[])) w fun v17_24 w =>
  (kN P (callN (.func (.func 45) #[] #[]) #[v80]) w fun v81_9 w =>
  kV P (Instr.loadAt 109 v11) w fun v82_9 w =>
  kN P (callN (.func (.func 45) #[] #[]) #[v82_9]) w fun v83_28 w =>
  kU P (Instr.storeAt 113 v16_18 v81_9) w fun _ w =>
  kU P (Instr.storeAt 113 v17_24 v83_28) w fun _ w =>
  J3 [v16_18, v17_24] w) ∧
  (kV P (Instr.loadAt 109 v11) w fun v82_10 w =>
  kN P (callN (.func (.func 45) #[] #[]) #[v80]) w fun v81_10 w =>
  kN P (callN (.func (.func 45) #[] #[]) #[v82_10]) w fun v83_29 w =>
  kU P (Instr.storeAt 113 v16_18 v81_10) w fun _ w =>
  kU P (Instr.storeAt 113 v17_24 v83_29) w fun _ w =>
  J3 [v16_18, v17_24] w))) ∧
  (kV P (Instr.alloc 113 true (.tuple #[])) w fun v17_25 w =>
  (kN P (callN (.func (.func 45) #[] #[]) #[v80]) w fun v81_11 w =>
  (kV P (Instr.loadAt 109 v11) w fun v82_11 w =>
  (kN P (callN (.func (.func 45) #[] #[]) #[v82_11]) w fun v83_30 w =>
  kV P (Instr.alloc 113 true (.tuple #[])) w fun v16_19 w =>
  kU P (Instr.storeAt 113 v16_19 v81_11) w fun _ w =>
  kU P (Instr.storeAt 113 v17_25 v83_30) w fun _ w =>
  J3 [v16_19, v17_25] w) ∧
  (kV P (Instr.alloc 113 true (.tuple #[])) w fun v16_20 w =>
  kN P (callN (.func (.func 45) #[] #[]) #[v82_11]) w fun v83_31 w =>
  kU P (Instr.storeAt 113 v16_20 v81_11) w fun _ w =>
  kU P (Instr.storeAt 113 v17_25 v83_31) w fun _ w =>
  J3 [v16_20, v17_25] w)) ∧
  (kV P (Instr.alloc 113 true (.tuple #[])) w fun v16_21 w =>
  kV P (Instr.loadAt 109 v11) w fun v82_12 w =>
  kN P (callN (.func (.func 45) #[] #[]) #[v82_12]) w fun v83_32 w =>
  kU P (Instr.storeAt 113 v16_21 v81_11) w fun _ w =>
  kU P (Instr.storeAt 113 v17_25 v83_32) w fun _ w =>
  J3 [v16_21, v17_25] w)) ∧
  (kV P (Instr.loadAt 109 v11) w fun v82_13 w =>
  (kN P (callN (.func (.func 45) #[] #[]) #[v80]) w fun v81_12 w =>
  (kN P (callN (.func (.func 45) #[] #[]) #[v82_13]) w fun v83_33 w =>
  kV P (Instr.alloc 113 true (.tuple #[])) w fun v16_22 w =>
  kU P (Instr.storeAt 113 v16_22 v81_12) w fun _ w =>
  kU P (Instr.storeAt 113 v17_25 v83_33) w fun _ w =>
  J3 [v16_22, v17_25] w) ∧
  (kV P (Instr.alloc 113 true (.tuple #[])) w fun v16_23 w =>
  kN P (callN (.func (.func 45) #[] #[]) #[v82_13]) w fun v83_34 w =>
  kU P (Instr.storeAt 113 v16_23 v81_12) w fun _ w =>
  kU P (Instr.storeAt 113 v17_25 v83_34) w fun _ w =>
  J3 [v16_23, v17_25] w)) ∧
  (kV P (Instr.alloc 113 true (.tuple #[])) w fun v16_24 w =>
  kN P (callN (.func (.func 45) #[] #[]) #[v80]) w fun v81_13 w =>
  kN P (callN (.func (.func 45) #[] #[]) #[v82_13]) w fun v83_35 w =>
  kU P (Instr.storeAt 113 v16_24 v81_13) w fun _ w =>
  kU P (Instr.storeAt 113 v17_25 v83_35) w fun _ w =>
  J3 [v16_24, v17_25] w)) ∧
  (kV P (Instr.alloc 113 true (.tuple #[])) w fun v16_25 w =>
  (kN P (callN (.func (.func 45) #[] #[]) #[v80]) w fun v81_14 w =>
  kV P (Instr.loadAt 109 v11) w fun v82_14 w =>
  kN P (callN (.func (.func 45) #[] #[]) #[v82_14]) w fun v83_36 w =>
  kU P (Instr.storeAt 113 v16_25 v81_14) w fun _ w =>
  kU P (Instr.storeAt 113 v17_25 v83_36) w fun _ w =>
  J3 [v16_25, v17_25] w) ∧
  (kV P (Instr.loadAt 109 v11) w fun v82_15 w =>
  kN P (callN (.func (.func 45) #[] #[]) #[v80]) w fun v81_15 w =>
  kN P (callN (.func (.func 45) #[] #[]) #[v82_15]) w fun v83_37 w =>
  kU P (Instr.storeAt 113 v16_25 v81_15) w fun _ w =>
  kU P (Instr.storeAt 113 v17_25 v83_37) w fun _ w =>
  J3 [v16_25, v17_25] w)))) ∧
  (kV P (Instr.loadAt 109 v11) w fun v82_16 w =>
  (kV P (Instr.loadAt 109 v3) w fun v80_1 w =>
  (kN P (callN (.func (.func 45) #[] #[]) #[v80_1]) w fun v81_16 w =>
  (kN P (callN (.func (.func 45) #[] #[]) #[v82_16]) w fun v83_38 w =>
  (kV P (Instr.alloc 113 true (.tuple #[])) w fun v16_26 w =>
  kV P (Instr.alloc 113 true (.tuple #[])) w fun v17_26 w =>
  kU P (Instr.storeAt 113 v16_26 v81_16) w fun _ w =>
  kU P (Instr.storeAt 113 v17_26 v83_38) w fun _ w =>
  J3 [v16_26, v17_26] w) ∧
  (kV P (Instr.alloc 113 true (.tuple #[])) w fun v17_27 w =>
  kV P (Instr.alloc 113 true (.tuple #[])) w fun v16_27 w =>
  kU P (Instr.storeAt 113 v16_27 v81_16) w fun _ w =>
  kU P (Instr.storeAt 113 v17_27 v83_38) w fun _ w =>
  J3 [v16_27, v17_27] w)) ∧
  (kV P (Instr.alloc 113 true (.tuple #[])) w fun v16_28 w =>
  (kN P (callN (.func (.func 45) #[] #[]) #[v82_16]) w fun v83_39 w =>
  kV P (Instr.alloc 113 true (.tuple #[])) w fun v17_28 w =>
  kU P (Instr.storeAt 113 v16_28 v81_16) w fun _ w =>
  kU P (Instr.storeAt 113 v17_28 v83_39) w fun _ w =>
  J3 [v16_28, v17_28] w) ∧
  (kV P (Instr.alloc 113 true (.tuple #[])) w fun v17_29 w =>
  kN P (callN (.func (.func 45) #[] #[]) #[v82_16]) w fun v83_40 w =>
  kU P (Instr.storeAt 113 v16_28 v81_16) w fun _ w =>
  kU P (Instr.storeAt 113 v17_29 v83_40) w fun _ w =>
  J3 [v16_28, v17_29] w)) ∧
  (kV P (Instr.alloc 113 true (.tuple #[])) w fun v17_30 w =>
  (kN P (callN (.func (.func 45) #[] #[]) #[v82_16]) w fun v83_41 w =>
  kV P (Instr.alloc 113 true (.tuple #[])) w fun v16_29 w =>
  kU P (Instr.storeAt 113 v16_29 v81_16) w fun _ w =>
  kU P (Instr.storeAt 113 v17_30 v83_41) w fun _ w =>
  J3 [v16_29, v17_30] w) ∧
  (kV P (Instr.alloc 113 true (.tuple #[])) w fun v16_30 w =>
  kN P (callN (.func (.func 45) #[] #[]) #[v82_16]) w fun v83_42 w =>
  kU P (Instr.storeAt 113 v16_30 v81_16) w fun _ w =>
  kU P (Instr.storeAt 113 v17_30 v83_42) w fun _ w =>
  J3 [v16_30, v17_30] w))) ∧
  (kV P (Instr.alloc 113 true (.tuple #[])) w fun v16_31 w =>
  (kN P (callN (.func (.func 45) #[] #[]) #[v80_1]) w fun v81_17 w =>
  (kN P (callN (.func (.func 45) #[] #[]) #[v82_16]) w fun v83_43 w =>
  kV P (Instr.alloc 113 true (.tuple #[])) w fun v17_31 w =>
  kU P (Instr.storeAt 113 v16_31 v81_17) w fun _ w =>
  kU P (Instr.storeAt 113 v17_31 v83_43) w fun _ w =>
  J3 [v16_31, v17_31] w) ∧
  (kV P (Instr.alloc 113 true (.tuple #[])) w fun v17_32 w =>
  kN P (callN (.func (.func 45) #[] #[]) #[v82_16]) w fun v83_44 w =>
  kU P (Instr.storeAt 113 v16_31 v81_17) w fun _ w =>
  kU P (Instr.storeAt 113 v17_32 v83_44) w fun _ w =>
  J3 [v16_31, v17_32] w)) ∧
  (kV P (Instr.alloc 113 true (.tuple #[])) w fun v17_33 w =>
  kN P (callN (.func (.func 45) #[] #[]) #[v80_1]) w fun v81_18 w =>
  kN P (callN (.func (.func 45) #[] #[]) #[v82_16]) w fun v83_45 w =>
  kU P (Instr.storeAt 113 v16_31 v81_18) w fun _ w =>
  kU P (Instr.storeAt 113 v17_33 v83_45) w fun _ w =>
  J3 [v16_31, v17_33] w)) ∧
  (kV P (Instr.alloc 113 true (.tuple #[])) w fun v17_34 w =>
  (kN P (callN (.func (.func 45) #[] #[]) #[v80_1]) w fun v81_19 w =>
  (kN P (callN (.func (.func 45) #[] #[]) #[v82_16]) w fun v83_46 w =>
  kV P (Instr.alloc 113 true (.tuple #[])) w fun v16_32 w =>
  kU P (Instr.storeAt 113 v16_32 v81_19) w fun _ w =>
  kU P (Instr.storeAt 113 v17_34 v83_46) w fun _ w =>
  J3 [v16_32, v17_34] w) ∧
  (kV P (Instr.alloc 113 true (.tuple #[])) w fun v16_33 w =>
  kN P (callN (.func (.func 45) #[] #[]) #[v82_16]) w fun v83_47 w =>
  kU P (Instr.storeAt 113 v16_33 v81_19) w fun _ w =>
  kU P (Instr.storeAt 113 v17_34 v83_47) w fun _ w =>
  J3 [v16_33, v17_34] w)) ∧
  (kV P (Instr.alloc 113 true (.tuple #[])) w fun v16_34 w =>
  kN P (callN (.func (.func 45) #[] #[]) #[v80_1]) w fun v81_20 w =>
  kN P (callN (.func (.func 45) #[] #[]) #[v82_16]) w fun v83_48 w =>
  kU P (Instr.storeAt 113 v16_34 v81_20) w fun _ w =>
  kU P (Instr.storeAt 113 v17_34 v83_48) w fun _ w =>
  J3 [v16_34, v17_34] w))) ∧
  (kV P (Instr.alloc 113 true (.tuple #[])) w fun v16_35 w =>
  (kV P (Instr.loadAt 109 v3) w fun v80_2 w =>
  (kN P (callN (.func (.func 45) #[] #[]) #[v80_2]) w fun v81_21 w =>
  (kN P (callN (.func (.func 45) #[] #[]) #[v82_16]) w fun v83_49 w =>
  kV P (Instr.alloc 113 true (.tuple #[])) w fun v17_35 w =>
  kU P (Instr.storeAt 113 v16_35 v81_21) w fun _ w =>
  kU P (Instr.storeAt 113 v17_35 v83_49) w fun _ w =>
  J3 [v16_35, v17_35] w) ∧
  (kV P (Instr.alloc 113 true (.tuple #[])) w fun v17_36 w =>
  kN P (callN (.func (.func 45) #[] #[]) #[v82_16]) w fun v83_50 w =>
  kU P (Instr.storeAt 113 v16_35 v81_21) w fun _ w =>
  kU P (Instr.storeAt 113 v17_36 v83_50) w fun _ w =>
  J3 [v16_35, v17_36] w)) ∧
  (kV P (Instr.alloc 113 true (.tuple #[])) w fun v17_37 w =>
  kN P (callN (.func (.func 45) #[] #[]) #[v80_2]) w fun v81_22 w =>
  kN P (callN (.func (.func 45) #[] #[]) #[v82_16]) w fun v83_51 w =>
  kU P (Instr.storeAt 113 v16_35 v81_22) w fun _ w =>
  kU P (Instr.storeAt 113 v17_37 v83_51) w fun _ w =>
  J3 [v16_35, v17_37] w)) ∧
  (kV P (Instr.alloc 113 true (.tuple #[])) w fun v17_38 w =>
  kV P (Instr.loadAt 109 v3) w fun v80_3 w =>
  kN P (callN (.func (.func 45) #[] #[]) #[v80_3]) w fun v81_23 w =>
  kN P (callN (.func (.func 45) #[] #[]) #[v82_16]) w fun v83_52 w =>
  kU P (Instr.storeAt 113 v16_35 v81_23) w fun _ w =>
  kU P (Instr.storeAt 113 v17_38 v83_52) w fun _ w =>
  J3 [v16_35, v17_38] w)) ∧
  (kV P (Instr.alloc 113 true (.tuple #[])) w fun v17_39 w =>
  (kV P (Instr.loadAt 109 v3) w fun v80_4 w =>
  (kN P (callN (.func (.func 45) #[] #[]) #[v80_4]) w fun v81_24 w =>
  (kN P (callN (.func (.func 45) #[] #[]) #[v82_16]) w fun v83_53 w =>
  kV P (Instr.alloc 113 true (.tuple #[])) w fun v16_36 w =>
  kU P (Instr.storeAt 113 v16_36 v81_24) w fun _ w =>
  kU P (Instr.storeAt 113 v17_39 v83_53) w fun _ w =>
  J3 [v16_36, v17_39] w) ∧
  (kV P (Instr.alloc 113 true (.tuple #[])) w fun v16_37 w =>
  kN P (callN (.func (.func 45) #[] #[]) #[v82_16]) w fun v83_54 w =>
  kU P (Instr.storeAt 113 v16_37 v81_24) w fun _ w =>
  kU P (Instr.storeAt 113 v17_39 v83_54) w fun _ w =>
  J3 [v16_37, v17_39] w)) ∧
  (kV P (Instr.alloc 113 true (.tuple #[])) w fun v16_38 w =>
  kN P (callN (.func (.func 45) #[] #[]) #[v80_4]) w fun v81_25 w =>
  kN P (callN (.func (.func 45) #[] #[]) #[v82_16]) w fun v83_55 w =>
  kU P (Instr.storeAt 113 v16_38 v81_25) w fun _ w =>
  kU P (Instr.storeAt 113 v17_39 v83_55) w fun _ w =>
  J3 [v16_38, v17_39] w)) ∧
  (kV P (Instr.alloc 113 true (.tuple #[])) w fun v16_39 w =>
  kV P (Instr.loadAt 109 v3) w fun v80_5 w =>
  kN P (callN (.func (.func 45) #[] #[]) #[v80_5]) w fun v81_26 w =>
  kN P (callN (.func (.func 45) #[] #[]) #[v82_16]) w fun v83_56 w =>
  kU P (Instr.storeAt 113 v16_39 v81_26) w fun _ w =>
  kU P (Instr.storeAt 113 v17_39 v83_56) w fun _ w =>
  J3 [v16_39, v17_39] w))) ∧
  (kV P (Instr.alloc 113 true (.tuple #[])) w fun v16_40 w =>
  (kV P (Instr.loadAt 109 v3) w fun v80_6 w =>
  (kN P (callN (.func (.func 45) #[] #[]) #[v80_6]) w fun v81_27 w =>
  (kV P (Instr.loadAt 109 v11) w fun v82_17 w =>
  (kN P (callN (.func (.func 45) #[] #[]) #[v82_17]) w fun v83_57 w =>
  kV P (Instr.alloc 113 true (.tuple #[])) w fun v17_40 w =>
  kU P (Instr.storeAt 113 v16_40 v81_27) w fun _ w =>
  kU P (Instr.storeAt 113 v17_40 v83_57) w fun _ w =>
  J3 [v16_40, v17_40] w) ∧
  (kV P (Instr.alloc 113 true (.tuple #[])) w fun v17_41 w =>
  kN P (callN (.func (.func 45) #[] #[]) #[v82_17]) w fun v83_58 w =>
  kU P (Instr.storeAt 113 v16_40 v81_27) w fun _ w =>
  kU P (Instr.storeAt 113 v17_41 v83_58) w fun _ w =>
  J3 [v16_40, v17_41] w)) ∧
  (kV P (Instr.alloc 113 true (.tuple #[])) w fun v17_42 w =>
  kV P (Instr.loadAt 109 v11) w fun v82_18 w =>
  kN P (callN (.func (.func 45) #[] #[]) #[v82_18]) w fun v83_59 w =>
  kU P (Instr.storeAt 113 v16_40 v81_27) w fun _ w =>
  kU P (Instr.storeAt 113 v17_42 v83_59) w fun _ w =>
  J3 [v16_40, v17_42] w)) ∧
  (kV P (Instr.loadAt 109 v11) w fun v82_19 w =>
  (kN P (callN (.func (.func 45) #[] #[]) #[v80_6]) w fun v81_28 w =>
  (kN P (callN (.func (.func 45) #[] #[]) #[v82_19]) w fun v83_60 w =>
  kV P (Instr.alloc 113 true (.tuple #[])) w fun v17_43 w =>
  kU P (Instr.storeAt 113 v16_40 v81_28) w fun _ w =>
  kU P (Instr.storeAt 113 v17_43 v83_60) w fun _ w =>
  J3 [v16_40, v17_43] w) ∧
  (kV P (Instr.alloc 113 true (.tuple #[])) w fun v17_44 w =>
  kN P (callN (.func (.func 45) #[] #[]) #[v82_19]) w fun v83_61 w =>
  kU P (Instr.storeAt 113 v16_40 v81_28) w fun _ w =>
  kU P (Instr.storeAt 113 v17_44 v83_61) w fun _ w =>
  J3 [v16_40, v17_44] w)) ∧
  (kV P (Instr.alloc 113 true (.tuple #[])) w fun v17_45 w =>
  kN P (callN (.func (.func 45) #[] #[]) #[v80_6]) w fun v81_29 w =>
  kN P (callN (.func (.func 45) #[] #[]) #[v82_19]) w fun v83_62 w =>
  kU P (Instr.storeAt 113 v16_40 v81_29) w fun _ w =>
  kU P (Instr.storeAt 113 v17_45 v83_62) w fun _ w =>
  J3 [v16_40, v17_45] w)) ∧
  (kV P (Instr.alloc 113 true (.tuple #[])) w fun v17_46 w =>
  (kN P (callN (.func (.func 45) #[] #[]) #[v80_6]) w fun v81_30 w =>
  kV P (Instr.loadAt 109 v11) w fun v82_20 w =>
  kN P (callN (.func (.func 45) #[] #[]) #[v82_20]) w fun v83_63 w =>
  kU P (Instr.storeAt 113 v16_40 v81_30) w fun _ w =>
  kU P (Instr.storeAt 113 v17_46 v83_63) w fun _ w =>
  J3 [v16_40, v17_46] w) ∧
  (kV P (Instr.loadAt 109 v11) w fun v82_21 w =>
  kN P (callN (.func (.func 45) #[] #[]) #[v80_6]) w fun v81_31 w =>
  kN P (callN (.func (.func 45) #[] #[]) #[v82_21]) w fun v83_64 w =>
  kU P (Instr.storeAt 113 v16_40 v81_31) w fun _ w =>
  kU P (Instr.storeAt 113 v17_46 v83_64) w fun _ w =>
  J3 [v16_40, v17_46] w))) ∧
  (kV P (Instr.loadAt 109 v11) w fun v82_22 w =>
  (kV P (Instr.loadAt 109 v3) w fun v80_7 w =>
  (kN P (callN (.func (.func 45) #[] #[]) #[v80_7]) w fun v81_32 w =>
  (kN P (callN (.func (.func 45) #[] #[]) #[v82_22]) w fun v83_65 w =>
  kV P (Instr.alloc 113 true (.tuple #[])) w fun v17_47 w =>
  kU P (Instr.storeAt 113 v16_40 v81_32) w fun _ w =>
  kU P (Instr.storeAt 113 v17_47 v83_65) w fun _ w =>
  J3 [v16_40, v17_47] w) ∧
  (kV P (Instr.alloc 113 true (.tuple #[])) w fun v17_48 w =>
  kN P (callN (.func (.func 45) #[] #[]) #[v82_22]) w fun v83_66 w =>
  kU P (Instr.storeAt 113 v16_40 v81_32) w fun _ w =>
  kU P (Instr.storeAt 113 v17_48 v83_66) w fun _ w =>
  J3 [v16_40, v17_48] w)) ∧
  (kV P (Instr.alloc 113 true (.tuple #[])) w fun v17_49 w =>
  kN P (callN (.func (.func 45) #[] #[]) #[v80_7]) w fun v81_33 w =>
  kN P (callN (.func (.func 45) #[] #[]) #[v82_22]) w fun v83_67 w =>
  kU P (Instr.storeAt 113 v16_40 v81_33) w fun _ w =>
  kU P (Instr.storeAt 113 v17_49 v83_67) w fun _ w =>
  J3 [v16_40, v17_49] w)) ∧
  (kV P (Instr.alloc 113 true (.tuple #[])) w fun v17_50 w =>
  kV P (Instr.loadAt 109 v3) w fun v80_8 w =>
  kN P (callN (.func (.func 45) #[] #[]) #[v80_8]) w fun v81_34 w =>
  kN P (callN (.func (.func 45) #[] #[]) #[v82_22]) w fun v83_68 w =>
  kU P (Instr.storeAt 113 v16_40 v81_34) w fun _ w =>
  kU P (Instr.storeAt 113 v17_50 v83_68) w fun _ w =>
  J3 [v16_40, v17_50] w)) ∧
  (kV P (Instr.alloc 113 true (.tuple #[])) w fun v17_51 w =>
  (kV P (Instr.loadAt 109 v3) w fun v80_9 w =>
  (kN P (callN (.func (.func 45) #[] #[]) #[v80_9]) w fun v81_35 w =>
  kV P (Instr.loadAt 109 v11) w fun v82_23 w =>
  kN P (callN (.func (.func 45) #[] #[]) #[v82_23]) w fun v83_69 w =>
  kU P (Instr.storeAt 113 v16_40 v81_35) w fun _ w =>
  kU P (Instr.storeAt 113 v17_51 v83_69) w fun _ w =>
  J3 [v16_40, v17_51] w) ∧
  (kV P (Instr.loadAt 109 v11) w fun v82_24 w =>
  kN P (callN (.func (.func 45) #[] #[]) #[v80_9]) w fun v81_36 w =>
  kN P (callN (.func (.func 45) #[] #[]) #[v82_24]) w fun v83_70 w =>
  kU P (Instr.storeAt 113 v16_40 v81_36) w fun _ w =>
  kU P (Instr.storeAt 113 v17_51 v83_70) w fun _ w =>
  J3 [v16_40, v17_51] w)) ∧
  (kV P (Instr.loadAt 109 v11) w fun v82_25 w =>
  kV P (Instr.loadAt 109 v3) w fun v80_10 w =>
  kN P (callN (.func (.func 45) #[] #[]) #[v80_10]) w fun v81_37 w =>
  kN P (callN (.func (.func 45) #[] #[]) #[v82_25]) w fun v83_71 w =>
  kU P (Instr.storeAt 113 v16_40 v81_37) w fun _ w =>
  kU P (Instr.storeAt 113 v17_51 v83_71) w fun _ w =>
  J3 [v16_40, v17_51] w))) ∧
  (kV P (Instr.alloc 113 true (.tuple #[])) w fun v17_52 w =>
  (kV P (Instr.loadAt 109 v3) w fun v80_11 w =>
  (kN P (callN (.func (.func 45) #[] #[]) #[v80_11]) w fun v81_38 w =>
  (kV P (Instr.loadAt 109 v11) w fun v82_26 w =>
  (kN P (callN (.func (.func 45) #[] #[]) #[v82_26]) w fun v83_72 w =>
  kV P (Instr.alloc 113 true (.tuple #[])) w fun v16_41 w =>
  kU P (Instr.storeAt 113 v16_41 v81_38) w fun _ w =>
  kU P (Instr.storeAt 113 v17_52 v83_72) w fun _ w =>
  J3 [v16_41, v17_52] w) ∧
  (kV P (Instr.alloc 113 true (.tuple #[])) w fun v16_42 w =>
  kN P (callN (.func (.func 45) #[] #[]) #[v82_26]) w fun v83_73 w =>
  kU P (Instr.storeAt 113 v16_42 v81_38) w fun _ w =>
  kU P (Instr.storeAt 113 v17_52 v83_73) w fun _ w =>
  J3 [v16_42, v17_52] w)) ∧
  (kV P (Instr.alloc 113 true (.tuple #[])) w fun v16_43 w =>
  kV P (Instr.loadAt 109 v11) w fun v82_27 w =>
  kN P (callN (.func (.func 45) #[] #[]) #[v82_27]) w fun v83_74 w =>
  kU P (Instr.storeAt 113 v16_43 v81_38) w fun _ w =>
  kU P (Instr.storeAt 113 v17_52 v83_74) w fun _ w =>
  J3 [v16_43, v17_52] w)) ∧
  (kV P (Instr.loadAt 109 v11) w fun v82_28 w =>
  (kN P (callN (.func (.func 45) #[] #[]) #[v80_11]) w fun v81_39 w =>
  (kN P (callN (.func (.func 45) #[] #[]) #[v82_28]) w fun v83_75 w =>
  kV P (Instr.alloc 113 true (.tuple #[])) w fun v16_44 w =>
  kU P (Instr.storeAt 113 v16_44 v81_39) w fun _ w =>
  kU P (Instr.storeAt 113 v17_52 v83_75) w fun _ w =>
  J3 [v16_44, v17_52] w) ∧
  (kV P (Instr.alloc 113 true (.tuple #[])) w fun v16_45 w =>
  kN P (callN (.func (.func 45) #[] #[]) #[v82_28]) w fun v83_76 w =>
  kU P (Instr.storeAt 113 v16_45 v81_39) w fun _ w =>
  kU P (Instr.storeAt 113 v17_52 v83_76) w fun _ w =>
  J3 [v16_45, v17_52] w)) ∧
  (kV P (Instr.alloc 113 true (.tuple #[])) w fun v16_46 w =>
  kN P (callN (.func (.func 45) #[] #[]) #[v80_11]) w fun v81_40 w =>
  kN P (callN (.func (.func 45) #[] #[]) #[v82_28]) w fun v83_77 w =>
  kU P (Instr.storeAt 113 v16_46 v81_40) w fun _ w =>
  kU P (Instr.storeAt 113 v17_52 v83_77) w fun _ w =>
  J3 [v16_46, v17_52] w)) ∧
  (kV P (Instr.alloc 113 true (.tuple #[])) w fun v16_47 w =>
  (kN P (callN (.func (.func 45) #[] #[]) #[v80_11]) w fun v81_41 w =>
  kV P (Instr.loadAt 109 v11) w fun v82_29 w =>
  kN P (callN (.func (.func 45) #[] #[]) #[v82_29]) w fun v83_78 w =>
  kU P (Instr.storeAt 113 v16_47 v81_41) w fun _ w =>
  kU P (Instr.storeAt 113 v17_52 v83_78) w fun _ w =>
  J3 [v16_47, v17_52] w) ∧
  (kV P (Instr.loadAt 109 v11) w fun v82_30 w =>
  kN P (callN (.func (.func 45) #[] #[]) #[v80_11]) w fun v81_42 w =>
  kN P (callN (.func (.func 45) #[] #[]) #[v82_30]) w fun v83_79 w =>
  kU P (Instr.storeAt 113 v16_47 v81_42) w fun _ w =>
  kU P (Instr.storeAt 113 v17_52 v83_79) w fun _ w =>
  J3 [v16_47, v17_52] w))) ∧
  (kV P (Instr.loadAt 109 v11) w fun v82_31 w =>
  (kV P (Instr.loadAt 109 v3) w fun v80_12 w =>
  (kN P (callN (.func (.func 45) #[] #[]) #[v80_12]) w fun v81_43 w =>
  (kN P (callN (.func (.func 45) #[] #[]) #[v82_31]) w fun v83_80 w =>
  kV P (Instr.alloc 113 true (.tuple #[])) w fun v16_48 w =>
  kU P (Instr.storeAt 113 v16_48 v81_43) w fun _ w =>
  kU P (Instr.storeAt 113 v17_52 v83_80) w fun _ w =>
  J3 [v16_48, v17_52] w) ∧
  (kV P (Instr.alloc 113 true (.tuple #[])) w fun v16_49 w =>
  kN P (callN (.func (.func 45) #[] #[]) #[v82_31]) w fun v83_81 w =>
  kU P (Instr.storeAt 113 v16_49 v81_43) w fun _ w =>
  kU P (Instr.storeAt 113 v17_52 v83_81) w fun _ w =>
  J3 [v16_49, v17_52] w)) ∧
  (kV P (Instr.alloc 113 true (.tuple #[])) w fun v16_50 w =>
  kN P (callN (.func (.func 45) #[] #[]) #[v80_12]) w fun v81_44 w =>
  kN P (callN (.func (.func 45) #[] #[]) #[v82_31]) w fun v83_82 w =>
  kU P (Instr.storeAt 113 v16_50 v81_44) w fun _ w =>
  kU P (Instr.storeAt 113 v17_52 v83_82) w fun _ w =>
  J3 [v16_50, v17_52] w)) ∧
  (kV P (Instr.alloc 113 true (.tuple #[])) w fun v16_51 w =>
  kV P (Instr.loadAt 109 v3) w fun v80_13 w =>
  kN P (callN (.func (.func 45) #[] #[]) #[v80_13]) w fun v81_45 w =>
  kN P (callN (.func (.func 45) #[] #[]) #[v82_31]) w fun v83_83 w =>
  kU P (Instr.storeAt 113 v16_51 v81_45) w fun _ w =>
  kU P (Instr.storeAt 113 v17_52 v83_83) w fun _ w =>
  J3 [v16_51, v17_52] w)) ∧
  (kV P (Instr.alloc 113 true (.tuple #[])) w fun v16_52 w =>
  (kV P (Instr.loadAt 109 v3) w fun v80_14 w =>
  (kN P (callN (.func (.func 45) #[] #[]) #[v80_14]) w fun v81_46 w =>
  kV P (Instr.loadAt 109 v11) w fun v82_32 w =>
  kN P (callN (.func (.func 45) #[] #[]) #[v82_32]) w fun v83_84 w =>
  kU P (Instr.storeAt 113 v16_52 v81_46) w fun _ w =>
  kU P (Instr.storeAt 113 v17_52 v83_84) w fun _ w =>
  J3 [v16_52, v17_52] w) ∧
  (kV P (Instr.loadAt 109 v11) w fun v82_33 w =>
  kN P (callN (.func (.func 45) #[] #[]) #[v80_14]) w fun v81_47 w =>
  kN P (callN (.func (.func 45) #[] #[]) #[v82_33]) w fun v83_85 w =>
  kU P (Instr.storeAt 113 v16_52 v81_47) w fun _ w =>
  kU P (Instr.storeAt 113 v17_52 v83_85) w fun _ w =>
  J3 [v16_52, v17_52] w)) ∧
  (kV P (Instr.loadAt 109 v11) w fun v82_34 w =>
  kV P (Instr.loadAt 109 v3) w fun v80_15 w =>
  kN P (callN (.func (.func 45) #[] #[]) #[v80_15]) w fun v81_48 w =>
  kN P (callN (.func (.func 45) #[] #[]) #[v82_34]) w fun v83_86 w =>
  kU P (Instr.storeAt 113 v16_52 v81_48) w fun _ w =>
  kU P (Instr.storeAt 113 v17_52 v83_86) w fun _ w =>
  J3 [v16_52, v17_52] w)))) w) fun s3 w => ∀ _ : Nat → Value,
  loopT (fun R5 s5 w => ∀ _ : Nat → Value,
  kV P (binV .lss 3 (.tmp 84) (.const (.int .i64 16)) (s5.getD 0 undef) (.int .i64 16)) w fun v85 w =>
  condK v85
  (drewK (fun w =>
  sV P (Instr.indexAt 113 (s3.getD 0 undef) (s5.getD 0 undef)) w fun v89 =>
  sV P (Instr.loadAt 5 v89) w fun v90 =>
  sV P (Instr.indexAt 113 (s3.getD 1 undef) (s5.getD 0 undef)) w fun v92 =>
  sV P (Instr.loadAt 5 v92) w fun v93 =>
  sV P (binV .neq 5 (.tmp 90) (.tmp 93) v90 v93) w fun v94 =>
  joinK (fun J7 : Value → Prop => gdS (yb v94) true (fun k => k v61) fun v96 =>
  gdS (yb v94) true (fun k => k v96) fun v97 =>
  gdS (yb v97) true (fun k => k v40) fun v98 =>
  gdS (yb v97) true (fun k => sV P (binV .rem 22 (.tmp 98) (.const (.int .u64 16)) v98 (.int .u64 16)) w k) fun v99 =>
  gdS (yb v97) true (fun k => sV P (convert 22 3 v99) w k) fun v100 =>
  gdS (yb v97) true (fun k => k (s5.getD 0 undef)) fun v101 =>
  gdS (yb v97) true (fun k => sV P (binV .eql 3 (.tmp 100) (.tmp 101) v100 v101) w k) fun v102 =>
  gdS (yb v94) true (fun k => sN P (pickN v97 v102 (.bool false)) w k) fun v103 =>
  gdS (yb v94) true (fun k => sV P (Op.unary .not v103) w k) fun v104 =>
  sN P (pickN v94 v104 (.bool false)) w fun v105_1 =>
  J7 v105_1) fun v105 =>
  condK v105
  (K (.bool false) w)
  (kV P (binV .add 3 (.tmp 86) (.const (.int .i64 1)) (s5.getD 0 undef) (.int .i64 1)) w fun v87 w =>
  R5 [v87] w)) w)
  (K (.bool true) w)) [(.int .i64 0)] w))))
theorem F10_eq (P : Program) (t0 t1 t2 : Value) (w : World) (K : Value → World → Prop) : funE P ⟨[(15, 999)], [(17, [18])], [(16, [16, 17])]⟩ Try.f10 [t0, t1, t2] w K = F10 P t0 t1 t2 w K := by kernel_rfl
theorem F10_ok (t0 t1 t2 : Value) (w : World) (K : Value → World → Prop) (h : F10 Try.prog t0 t1 t2 w K) : callsK Try.prog 10 #[t0, t1, t2] w K := calls_of_eq mixedM Try.func10 (F10_eq _ t0 t1 t2 w K) h

/-- mintmark/ram.New -/
def F35 (P : Program) (t0 : Value) (w : World) (K : Value → World → Prop) : Prop :=
  kV P (binV .lss 3 (.tmp 4) (.const (.int .i64 1)) t0 (.int .i64 1)) w fun v5 w =>
  joinK (fun J0 : Value → World → Prop => gdK (yb v5) false (fun k => k t0 w) w fun v7 w =>
  gdK (yb v5) false (fun k => kV P (binV .gtr 3 (.tmp 7) (.const (.int .i64 64)) v7 (.int .i64 64)) w k) w fun v8 w =>
  kN P (pickN v5 (.bool true) v8) w fun v9_1 w =>
  J0 v9_1 w) fun v9 w =>
  condK v9
  (K (.tuple #[(.pointer none), (.int .i64 2)]) w)
  (kV P (Instr.makeSlice 127 t0 t0) w fun v11 w =>
  kV P (Instr.build 129 #[(0, v11)]) w fun v12 w =>
  kV P (Instr.box 129 v12) w fun v13 w =>
  K (.tuple #[v13, (.int .i64 0)]) w)
theorem F35_eq (P : Program) (t0 : Value) (w : World) (K : Value → World → Prop) : funE P ⟨[], [], []⟩ Try.f35 [t0] w K = F35 P t0 w K := by kernel_rfl
theorem F35_ok (t0 : Value) (w : World) (K : Value → World → Prop) (h : F35 Try.prog t0 w K) : callsK Try.prog 35 #[t0] w K := calls_of_eq mixedM Try.func35 (F35_eq _ t0 w K) h

/-- (*mintmark/ram.Ram).Store -/
def F36 (P : Program) (t0 t1 t2 t3 : Value) (w : World) (K : Value → World → Prop) : Prop :=
  kV P (Instr.box 22 t3) w fun v7 w =>
  kN P (callN (.func (.func 60) #[] #[]) #[t2]) w fun v16 w =>
  kV P (Instr.extract v16 0) w fun v17 w =>
  kV P (Instr.extract v16 1) w fun v18 w =>
  kN P (callN (.func (.func 61) #[] #[]) #[t0, t1, v17]) w fun v23 w =>
  kV P (Instr.extract v23 0) w fun v24 w =>
  kV P (Instr.extract v23 1) w fun v25 w =>
  kV P (Instr.extract v23 2) w fun v26 w =>
  kV P (Instr.alloc 131 true (.tuple #[])) w fun v11 w =>
  kV P (Instr.alloc 3 true (.tuple #[])) w fun v12 w =>
  kU P (Instr.storeAt 131 v11 v24) w fun _ w =>
  kU P (Instr.storeAt 3 v12 v25) w fun _ w =>
  joinL (fun J0 =>
  kV P (binV .eql 91 (.tmp 27) (.const (.int .i64 0)) v26 (.int .i64 0)) w fun v28 w =>
  joinK (fun J4 : Value → World → Prop => gdK (yb v28) true (fun k => k v18 w) w fun v30 w =>
  gdK (yb v28) true (fun k => kV P (Op.unary .not v30) w k) w fun v31 w =>
  kN P (pickN v28 v31 (.bool false)) w fun v32_1 w =>
  J4 v32_1 w) fun v32 w =>
  condK v32
  (J0 [(.int .i64 2)] w)
  (J0 [v26] w)) fun s0 w => ∀ _ : Nat → Value,
  kV P (binV .neq 91 (.tmp 33) (.const (.int .i64 0)) (s0.getD 0 undef) (.int .i64 0)) w fun v34 w =>
  condK v34
  (K (s0.getD 0 undef) w)
  (kN P (callN (.func (.func 62) #[] #[]) #[t2, (.func (.func 63) #[] #[v7, v11, v12])]) w fun v38 w =>
  joinL (fun J2 =>
  drewK (fun w =>
  (kV P (Instr.loadAt 131 v11) w fun v39 w =>
  (kV P (Instr.loadAt 131 v11) w fun v40 w =>
  pN P (nilN v40) fun v41 =>
  pV P (Instr.fieldAt 139 v41 1) fun v42 =>
  (kV P (Instr.loadAt 137 v42) w fun v43 w =>
  kV P (Instr.loadAt 3 v12) w fun v44 w =>
  kN P (callN (.func (.func 65) #[] #[]) #[v44, t2]) w fun v46 w =>
  kN P (callN (.func (.func 64) #[] #[]) #[v43, v46]) w fun v47 w =>
  pN P (nilN v39) fun v48 =>
  pV P (Instr.fieldAt 139 v48 1) fun v49 =>
  kU P (Instr.storeAt 137 v49 v47) w fun _ w =>
  J2 [] w) ∧
  (kV P (Instr.loadAt 3 v12) w fun v44_1 w =>
  (kV P (Instr.loadAt 137 v42) w fun v43_1 w =>
  kN P (callN (.func (.func 65) #[] #[]) #[v44_1, t2]) w fun v46_1 w =>
  kN P (callN (.func (.func 64) #[] #[]) #[v43_1, v46_1]) w fun v47_1 w =>
  pN P (nilN v39) fun v48_1 =>
  pV P (Instr.fieldAt 139 v48_1 1) fun v49_1 =>
  kU P (Instr.storeAt 137 v49_1 v47_1) w fun _ w =>
  J2 [] w) ∧
  (kN P (callN (.func (.func 65) #[] #[]) #[v44_1, t2]) w fun v46_2 w =>
  kV P (Instr.loadAt 137 v42) w fun v43_2 w =>
  kN P (callN (.func (.func 64) #[] #[]) #[v43_2, v46_2]) w fun v47_2 w =>
  pN P (nilN v39) fun v48_2 =>
  pV P (Instr.fieldAt 139 v48_2 1) fun v49_2 =>
  kU P (Instr.storeAt 137 v49_2 v47_2) w fun _ w =>
  J2 [] w))) ∧
  (kV P (Instr.loadAt 3 v12) w fun v44_2 w =>
  (kV P (Instr.loadAt 131 v11) w fun v40_1 w =>
  pN P (nilN v40_1) fun v41_1 =>
  pV P (Instr.fieldAt 139 v41_1 1) fun v42_1 =>
  (kV P (Instr.loadAt 137 v42_1) w fun v43_3 w =>
  kN P (callN (.func (.func 65) #[] #[]) #[v44_2, t2]) w fun v46_3 w =>
  kN P (callN (.func (.func 64) #[] #[]) #[v43_3, v46_3]) w fun v47_3 w =>
  pN P (nilN v39) fun v48_3 =>
  pV P (Instr.fieldAt 139 v48_3 1) fun v49_3 =>
  kU P (Instr.storeAt 137 v49_3 v47_3) w fun _ w =>
  J2 [] w) ∧
  (kN P (callN (.func (.func 65) #[] #[]) #[v44_2, t2]) w fun v46_4 w =>
  kV P (Instr.loadAt 137 v42_1) w fun v43_4 w =>
  kN P (callN (.func (.func 64) #[] #[]) #[v43_4, v46_4]) w fun v47_4 w =>
  pN P (nilN v39) fun v48_4 =>
  pV P (Instr.fieldAt 139 v48_4 1) fun v49_4 =>
  kU P (Instr.storeAt 137 v49_4 v47_4) w fun _ w =>
  J2 [] w)) ∧
  (kN P (callN (.func (.func 65) #[] #[]) #[v44_2, t2]) w fun v46_5 w =>
  kV P (Instr.loadAt 131 v11) w fun v40_2 w =>
  pN P (nilN v40_2) fun v41_2 =>
  pV P (Instr.fieldAt 139 v41_2 1) fun v42_2 =>
  kV P (Instr.loadAt 137 v42_2) w fun v43_5 w =>
  kN P (callN (.func (.func 64) #[] #[]) #[v43_5, v46_5]) w fun v47_5 w =>
  pN P (nilN v39) fun v48_5 =>
  pV P (Instr.fieldAt 139 v48_5 1) fun v49_5 =>
  kU P (Instr.storeAt 137 v49_5 v47_5) w fun _ w =>
  J2 [] w))) ∧
  (kV P (Instr.loadAt 131 v11) w fun v40_3 w =>
  pN P (nilN v40_3) fun v41_3 =>
  pV P (Instr.fieldAt 139 v41_3 1) fun v42_3 =>
  (kV P (Instr.loadAt 131 v11) w fun v39_1 w =>
  (kV P (Instr.loadAt 137 v42_3) w fun v43_6 w =>
  kV P (Instr.loadAt 3 v12) w fun v44_3 w =>
  kN P (callN (.func (.func 65) #[] #[]) #[v44_3, t2]) w fun v46_6 w =>
  kN P (callN (.func (.func 64) #[] #[]) #[v43_6, v46_6]) w fun v47_6 w =>
  pN P (nilN v39_1) fun v48_6 =>
  pV P (Instr.fieldAt 139 v48_6 1) fun v49_6 =>
  kU P (Instr.storeAt 137 v49_6 v47_6) w fun _ w =>
  J2 [] w) ∧
  (kV P (Instr.loadAt 3 v12) w fun v44_4 w =>
  (kV P (Instr.loadAt 137 v42_3) w fun v43_7 w =>
  kN P (callN (.func (.func 65) #[] #[]) #[v44_4, t2]) w fun v46_7 w =>
  kN P (callN (.func (.func 64) #[] #[]) #[v43_7, v46_7]) w fun v47_7 w =>
  pN P (nilN v39_1) fun v48_7 =>
  pV P (Instr.fieldAt 139 v48_7 1) fun v49_7 =>
  kU P (Instr.storeAt 137 v49_7 v47_7) w fun _ w =>
  J2 [] w) ∧
  (kN P (callN (.func (.func 65) #[] #[]) #[v44_4, t2]) w fun v46_8 w =>
  kV P (Instr.loadAt 137 v42_3) w fun v43_8 w =>
  kN P (callN (.func (.func 64) #[] #[]) #[v43_8, v46_8]) w fun v47_8 w =>
  pN P (nilN v39_1) fun v48_8 =>
  pV P (Instr.fieldAt 139 v48_8 1) fun v49_8 =>
  kU P (Instr.storeAt 137 v49_8 v47_8) w fun _ w =>
  J2 [] w))) ∧
  (kV P (Instr.loadAt 137 v42_3) w fun v43_9 w =>
  (kV P (Instr.loadAt 131 v11) w fun v39_2 w =>
  kV P (Instr.loadAt 3 v12) w fun v44_5 w =>
  kN P (callN (.func (.func 65) #[] #[]) #[v44_5, t2]) w fun v46_9 w =>
  kN P (callN (.func (.func 64) #[] #[]) #[v43_9, v46_9]) w fun v47_9 w =>
  pN P (nilN v39_2) fun v48_9 =>
  pV P (Instr.fieldAt 139 v48_9 1) fun v49_9 =>
  kU P (Instr.storeAt 137 v49_9 v47_9) w fun _ w =>
  J2 [] w) ∧
  (kV P (Instr.loadAt 3 v12) w fun v44_6 w =>
  (kV P (Instr.loadAt 131 v11) w fun v39_3 w =>
  kN P (callN (.func (.func 65) #[] #[]) #[v44_6, t2]) w fun v46_10 w =>
  kN P (callN (.func (.func 64) #[] #[]) #[v43_9, v46_10]) w fun v47_10 w =>
  pN P (nilN v39_3) fun v48_10 =>
  pV P (Instr.fieldAt 139 v48_10 1) fun v49_10 =>
  kU P (Instr.storeAt 137 v49_10 v47_10) w fun _ w =>
  J2 [] w) ∧
  (kN P (callN (.func (.func 65) #[] #[]) #[v44_6, t2]) w fun v46_11 w =>
  (kV P (Instr.loadAt 131 v11) w fun v39_4 w =>
  kN P (callN (.func (.func 64) #[] #[]) #[v43_9, v46_11]) w fun v47_11 w =>
  pN P (nilN v39_4) fun v48_11 =>
  pV P (Instr.fieldAt 139 v48_11 1) fun v49_11 =>
  kU P (Instr.storeAt 137 v49_11 v47_11) w fun _ w =>
  J2 [] w) ∧
  (kN P (callN (.func (.func 64) #[] #[]) #[v43_9, v46_11]) w fun v47_12 w =>
  kV P (Instr.loadAt 131 v11) w fun v39_5 w =>
  pN P (nilN v39_5) fun v48_12 =>
  pV P (Instr.fieldAt 139 v48_12 1) fun v49_12 =>
  kU P (Instr.storeAt 137 v49_12 v47_12) w fun _ w =>
  J2 [] w)))) ∧
  (kV P (Instr.loadAt 3 v12) w fun v44_7 w =>
  (kV P (Instr.loadAt 131 v11) w fun v39_6 w =>
  (kV P (Instr.loadAt 137 v42_3) w fun v43_10 w =>
  kN P (callN (.func (.func 65) #[] #[]) #[v44_7, t2]) w fun v46_12 w =>
  kN P (callN (.func (.func 64) #[] #[]) #[v43_10, v46_12]) w fun v47_13 w =>
  pN P (nilN v39_6) fun v48_13 =>
  pV P (Instr.fieldAt 139 v48_13 1) fun v49_13 =>
  kU P (Instr.storeAt 137 v49_13 v47_13) w fun _ w =>
  J2 [] w) ∧
  (kN P (callN (.func (.func 65) #[] #[]) #[v44_7, t2]) w fun v46_13 w =>
  kV P (Instr.loadAt 137 v42_3) w fun v43_11 w =>
  kN P (callN (.func (.func 64) #[] #[]) #[v43_11, v46_13]) w fun v47_14 w =>
  pN P (nilN v39_6) fun v48_14 =>
  pV P (Instr.fieldAt 139 v48_14 1) fun v49_14 =>
  kU P (Instr.storeAt 137 v49_14 v47_14) w fun _ w =>
  J2 [] w)) ∧
  (kV P (Instr.loadAt 137 v42_3) w fun v43_12 w =>
  (kV P (Instr.loadAt 131 v11) w fun v39_7 w =>
  kN P (callN (.func (.func 65) #[] #[]) #[v44_7, t2]) w fun v46_14 w =>
  kN P (callN (.func (.func 64) #[] #[]) #[v43_12, v46_14]) w fun v47_15 w =>
  pN P (nilN v39_7) fun v48_15 =>
  pV P (Instr.fieldAt 139 v48_15 1) fun v49_15 =>
  kU P (Instr.storeAt 137 v49_15 v47_15) w fun _ w =>
  J2 [] w) ∧
  (kN P (callN (.func (.func 65) #[] #[]) #[v44_7, t2]) w fun v46_15 w =>
  (kV P (Instr.loadAt 131 v11) w fun v39_8 w =>
  kN P (callN (.func (.func 64) #[] #[]) #[v43_12, v46_15]) w fun v47_16 w =>
  pN P (nilN v39_8) fun v48_16 =>
  pV P (Instr.fieldAt 139 v48_16 1) fun v49_16 =>
  kU P (Instr.storeAt 137 v49_16 v47_16) w fun _ w =>
  J2 [] w) ∧
  (kN P (callN (.func (.func 64) #[] #[]) #[v43_12, v46_15]) w fun v47_17 w =>
  kV P (Instr.loadAt 131 v11) w fun v39_9 w =>
  pN P (nilN v39_9) fun v48_17 =>
  pV P (Instr.fieldAt 139 v48_17 1) fun v49_17 =>
  kU P (Instr.storeAt 137 v49_17 v47_17) w fun _ w =>
  J2 [] w))) ∧
  (kN P (callN (.func (.func 65) #[] #[]) #[v44_7, t2]) w fun v46_16 w =>
  (kV P (Instr.loadAt 131 v11) w fun v39_10 w =>
  kV P (Instr.loadAt 137 v42_3) w fun v43_13 w =>
  kN P (callN (.func (.func 64) #[] #[]) #[v43_13, v46_16]) w fun v47_18 w =>
  pN P (nilN v39_10) fun v48_18 =>
  pV P (Instr.fieldAt 139 v48_18 1) fun v49_18 =>
  kU P (Instr.storeAt 137 v49_18 v47_18) w fun _ w =>
  J2 [] w) ∧
  (kV P (Instr.loadAt 137 v42_3) w fun v43_14 w =>
  (kV P (Instr.loadAt 131 v11) w fun v39_11 w =>
  kN P (callN (.func (.func 64) #[] #[]) #[v43_14, v46_16]) w fun v47_19 w =>
  pN P (nilN v39_11) fun v48_19 =>
  pV P (Instr.fieldAt 139 v48_19 1) fun v49_19 =>
  kU P (Instr.storeAt 137 v49_19 v47_19) w fun _ w =>
  J2 [] w) ∧
  (kN P (callN (.func (.func 64) #[] #[]) #[v43_14, v46_16]) w fun v47_20 w =>
  kV P (Instr.loadAt 131 v11) w fun v39_12 w =>
  pN P (nilN v39_12) fun v48_20 =>
  pV P (Instr.fieldAt 139 v48_20 1) fun v49_20 =>
  kU P (Instr.storeAt 137 v49_20 v47_20) w fun _ w =>
  J2 [] w))))) ∧
  (kV P (Instr.loadAt 3 v12) w fun v44_8 w =>
  (kV P (Instr.loadAt 131 v11) w fun v39_13 w =>
  (kV P (Instr.loadAt 131 v11) w fun v40_4 w =>
  pN P (nilN v40_4) fun v41_4 =>
  pV P (Instr.fieldAt 139 v41_4 1) fun v42_4 =>
  (kV P (Instr.loadAt 137 v42_4) w fun v43_15 w =>
  kN P (callN (.func (.func 65) #[] #[]) #[v44_8, t2]) w fun v46_17 w =>
  kN P (callN (.func (.func 64) #[] #[]) #[v43_15, v46_17]) w fun v47_21 w =>
  pN P (nilN v39_13) fun v48_21 =>
  pV P (Instr.fieldAt 139 v48_21 1) fun v49_21 =>
  kU P (Instr.storeAt 137 v49_21 v47_21) w fun _ w =>
  J2 [] w) ∧
  (kN P (callN (.func (.func 65) #[] #[]) #[v44_8, t2]) w fun v46_18 w =>
  kV P (Instr.loadAt 137 v42_4) w fun v43_16 w =>
  kN P (callN (.func (.func 64) #[] #[]) #[v43_16, v46_18]) w fun v47_22 w =>
  pN P (nilN v39_13) fun v48_22 =>
  pV P (Instr.fieldAt 139 v48_22 1) fun v49_22 =>
  kU P (Instr.storeAt 137 v49_22 v47_22) w fun _ w =>
  J2 [] w)) ∧
  (kN P (callN (.func (.func 65) #[] #[]) #[v44_8, t2]) w fun v46_19 w =>
  kV P (Instr.loadAt 131 v11) w fun v40_5 w =>
  pN P (nilN v40_5) fun v41_5 =>
  pV P (Instr.fieldAt 139 v41_5 1) fun v42_5 =>
  kV P (Instr.loadAt 137 v42_5) w fun v43_17 w =>
  kN P (callN (.func (.func 64) #[] #[]) #[v43_17, v46_19]) w fun v47_23 w =>
  pN P (nilN v39_13) fun v48_23 =>
  pV P (Instr.fieldAt 139 v48_23 1) fun v49_23 =>
  kU P (Instr.storeAt 137 v49_23 v47_23) w fun _ w =>
  J2 [] w)) ∧
  (kV P (Instr.loadAt 131 v11) w fun v40_6 w =>
  pN P (nilN v40_6) fun v41_6 =>
  pV P (Instr.fieldAt 139 v41_6 1) fun v42_6 =>
  (kV P (Instr.loadAt 131 v11) w fun v39_14 w =>
  (kV P (Instr.loadAt 137 v42_6) w fun v43_18 w =>
  kN P (callN (.func (.func 65) #[] #[]) #[v44_8, t2]) w fun v46_20 w =>
  kN P (callN (.func (.func 64) #[] #[]) #[v43_18, v46_20]) w fun v47_24 w =>
  pN P (nilN v39_14) fun v48_24 =>
  pV P (Instr.fieldAt 139 v48_24 1) fun v49_24 =>
  kU P (Instr.storeAt 137 v49_24 v47_24) w fun _ w =>
  J2 [] w) ∧
  (kN P (callN (.func (.func 65) #[] #[]) #[v44_8, t2]) w fun v46_21 w =>
  kV P (Instr.loadAt 137 v42_6) w fun v43_19 w =>
  kN P (callN (.func (.func 64) #[] #[]) #[v43_19, v46_21]) w fun v47_25 w =>
  pN P (nilN v39_14) fun v48_25 =>
  pV P (Instr.fieldAt 139 v48_25 1) fun v49_25 =>
  kU P (Instr.storeAt 137 v49_25 v47_25) w fun _ w =>
  J2 [] w)) ∧
  (kV P (Instr.loadAt 137 v42_6) w fun v43_20 w =>
  (kV P (Instr.loadAt 131 v11) w fun v39_15 w =>
  kN P (callN (.func (.func 65) #[] #[]) #[v44_8, t2]) w fun v46_22 w =>
  kN P (callN (.func (.func 64) #[] #[]) #[v43_20, v46_22]) w fun v47_26 w =>
  pN P (nilN v39_15) fun v48_26 =>
  pV P (Instr.fieldAt 139 v48_26 1) fun v49_26 =>
  kU P (Instr.storeAt 137 v49_26 v47_26) w fun _ w =>
  J2 [] w) ∧
  (kN P (callN (.func (.func 65) #[] #[]) #[v44_8, t2]) w fun v46_23 w =>
  (kV P (Instr.loadAt 131 v11) w fun v39_16 w =>
  kN P (callN (.func (.func 64) #[] #[]) #[v43_20, v46_23]) w fun v47_27 w =>
  pN P (nilN v39_16) fun v48_27 =>
  pV P (Instr.fieldAt 139 v48_27 1) fun v49_27 =>
  kU P (Instr.storeAt 137 v49_27 v47_27) w fun _ w =>
  J2 [] w) ∧
  (kN P (callN (.func (.func 64) #[] #[]) #[v43_20, v46_23]) w fun v47_28 w =>
  kV P (Instr.loadAt 131 v11) w fun v39_17 w =>
  pN P (nilN v39_17) fun v48_28 =>
  pV P (Instr.fieldAt 139 v48_28 1) fun v49_28 =>
  kU P (Instr.storeAt 137 v49_28 v47_28) w fun _ w =>
  J2 [] w))) ∧
  (kN P (callN (.func (.func 65) #[] #[]) #[v44_8, t2]) w fun v46_24 w =>
  (kV P (Instr.loadAt 131 v11) w fun v39_18 w =>
  kV P (Instr.loadAt 137 v42_6) w fun v43_21 w =>
  kN P (callN (.func (.func 64) #[] #[]) #[v43_21, v46_24]) w fun v47_29 w =>
  pN P (nilN v39_18) fun v48_29 =>
  pV P (Instr.fieldAt 139 v48_29 1) fun v49_29 =>
  kU P (Instr.storeAt 137 v49_29 v47_29) w fun _ w =>
  J2 [] w) ∧
  (kV P (Instr.loadAt 137 v42_6) w fun v43_22 w =>
  (kV P (Instr.loadAt 131 v11) w fun v39_19 w =>
  kN P (callN (.func (.func 64) #[] #[]) #[v43_22, v46_24]) w fun v47_30 w =>
  pN P (nilN v39_19) fun v48_30 =>
  pV P (Instr.fieldAt 139 v48_30 1) fun v49_30 =>
  kU P (Instr.storeAt 137 v49_30 v47_30) w fun _ w =>
  J2 [] w) ∧
  (kN P (callN (.func (.func 64) #[] #[]) #[v43_22, v46_24]) w fun v47_31 w =>
  kV P (Instr.loadAt 131 v11) w fun v39_20 w =>
  pN P (nilN v39_20) fun v48_31 =>
  pV P (Instr.fieldAt 139 v48_31 1) fun v49_31 =>
  kU P (Instr.storeAt 137 v49_31 v47_31) w fun _ w =>
  J2 [] w)))) ∧
  (kN P (callN (.func (.func 65) #[] #[]) #[v44_8, t2]) w fun v46_25 w =>
  (kV P (Instr.loadAt 131 v11) w fun v39_21 w =>
  kV P (Instr.loadAt 131 v11) w fun v40_7 w =>
  pN P (nilN v40_7) fun v41_7 =>
  pV P (Instr.fieldAt 139 v41_7 1) fun v42_7 =>
  kV P (Instr.loadAt 137 v42_7) w fun v43_23 w =>
  kN P (callN (.func (.func 64) #[] #[]) #[v43_23, v46_25]) w fun v47_32 w =>
  pN P (nilN v39_21) fun v48_32 =>
  pV P (Instr.fieldAt 139 v48_32 1) fun v49_32 =>
  kU P (Instr.storeAt 137 v49_32 v47_32) w fun _ w =>
  J2 [] w) ∧
  (kV P (Instr.loadAt 131 v11) w fun v40_8 w =>
  pN P (nilN v40_8) fun v41_8 =>
  pV P (Instr.fieldAt 139 v41_8 1) fun v42_8 =>
  (kV P (Instr.loadAt 131 v11) w fun v39_22 w =>
  kV P (Instr.loadAt 137 v42_8) w fun v43_24 w =>
  kN P (callN (.func (.func 64) #[] #[]) #[v43_24, v46_25]) w fun v47_33 w =>
  pN P (nilN v39_22) fun v48_33 =>
  pV P (Instr.fieldAt 139 v48_33 1) fun v49_33 =>
  kU P (Instr.storeAt 137 v49_33 v47_33) w fun _ w =>
  J2 [] w) ∧
  (kV P (Instr.loadAt 137 v42_8) w fun v43_25 w =>
  (kV P (Instr.loadAt 131 v11) w fun v39_23 w =>
  kN P (callN (.func (.func 64) #[] #[]) #[v43_25, v46_25]) w fun v47_34 w =>
  pN P (nilN v39_23) fun v48_34 =>
  pV P (Instr.fieldAt 139 v48_34 1) fun v49_34 =>
  kU P (Instr.storeAt 137 v49_34 v47_34) w fun _ w =>
  J2 [] w) ∧
  (kN P (callN (.func (.func 64) #[] #[]) #[v43_25, v46_25]) w fun v47_35 w =>
  kV P (Instr.loadAt 131 v11) w fun v39_24 w =>
  pN P (nilN v39_24) fun v48_35 =>
  pV P (Instr.fieldAt 139 v48_35 1) fun v49_35 =>
  kU P (Instr.storeAt 137 v49_35 v47_35) w fun _ w =>
  J2 [] w)))))) w) fun s2 w => ∀ _ : Nat → Value,
  K (.int .i64 0) w)
theorem F36_eq (P : Program) (t0 t1 t2 t3 : Value) (w : World) (K : Value → World → Prop) : funE P ⟨[(8, 999)], [], [(5, [13]), (9, [])]⟩ Try.f36 [t0, t1, t2, t3] w K = F36 P t0 t1 t2 t3 w K := by kernel_rfl
theorem F36_ok (t0 t1 t2 t3 : Value) (w : World) (K : Value → World → Prop) (h : F36 Try.prog t0 t1 t2 t3 w K) : callsK Try.prog 36 #[t0, t1, t2, t3] w K := calls_of_eq mixedM Try.func36 (F36_eq _ t0 t1 t2 t3 w K) h

/-- (*mintmark/ram.Ram).Load -/
def F37 (P : Program) (t0 t1 t2 : Value) (w : World) (K : Value → World → Prop) : Prop :=
  kN P (callN (.func (.func 60) #[] #[]) #[t2]) w fun v16 w =>
  kV P (Instr.extract v16 0) w fun v17 w =>
  kV P (Instr.extract v16 1) w fun v18 w =>
  kN P (callN (.func (.func 61) #[] #[]) #[t0, t1, v17]) w fun v23 w =>
  kV P (Instr.extract v23 0) w fun v24 w =>
  kV P (Instr.extract v23 1) w fun v25 w =>
  kV P (Instr.extract v23 2) w fun v26 w =>
  kV P (Instr.alloc 131 true (.tuple #[])) w fun v10 w =>
  kV P (Instr.alloc 3 true (.tuple #[])) w fun v11 w =>
  kU P (Instr.storeAt 131 v10 v24) w fun _ w =>
  kU P (Instr.storeAt 3 v11 v25) w fun _ w =>
  joinL (fun J0 =>
  kV P (binV .eql 91 (.tmp 27) (.const (.int .i64 0)) v26 (.int .i64 0)) w fun v28 w =>
  joinK (fun J2 : Value → World → Prop => gdK (yb v28) true (fun k => k v18 w) w fun v30 w =>
  gdK (yb v28) true (fun k => kV P (Op.unary .not v30) w k) w fun v31 w =>
  kN P (pickN v28 v31 (.bool false)) w fun v32_1 w =>
  J2 v32_1 w) fun v32 w =>
  condK v32
  (J0 [(.int .i64 2)] w)
  (J0 [v26] w)) fun s0 w => ∀ _ : Nat → Value,
  kV P (binV .neq 91 (.tmp 33) (.const (.int .i64 0)) (s0.getD 0 undef) (.int .i64 0)) w fun v34 w =>
  condK v34
  (K (.tuple #[(.int .u64 0), (s0.getD 0 undef)]) w)
  (kV P (Instr.alloc 22 true (.tuple #[])) w fun v13 w =>
  kU P (Instr.storeAt 22 v13 (.int .u64 0)) w fun _ w =>
  kN P (callN (.func (.func 62) #[] #[]) #[t2, (.func (.func 66) #[] #[v13, v10, v11])]) w fun v38 w =>
  kV P (Instr.loadAt 22 v13) w fun v39 w =>
  K (.tuple #[v39, (.int .i64 0)]) w)
theorem F37_eq (P : Program) (t0 t1 t2 : Value) (w : World) (K : Value → World → Prop) : funE P ⟨[], [], [(5, [12])]⟩ Try.f37 [t0, t1, t2] w K = F37 P t0 t1 t2 w K := by kernel_rfl
theorem F37_ok (t0 t1 t2 : Value) (w : World) (K : Value → World → Prop) (h : F37 Try.prog t0 t1 t2 w K) : callsK Try.prog 37 #[t0, t1, t2] w K := calls_of_eq mixedM Try.func37 (F37_eq _ t0 t1 t2 w K) h

/-- (*mintmark/ram.Ram).StoreCap -/
def F43 (P : Program) (t0 t1 t2 : Value) (w : World) (K : Value → World → Prop) : Prop :=
  kV P (Instr.box 109 t2) w fun v5 w =>
  kN P (callN (.func (.func 61) #[] #[]) #[t0, t1, (.int .u64 16)]) w fun v14 w =>
  kV P (Instr.extract v14 0) w fun v15 w =>
  kV P (Instr.extract v14 1) w fun v16 w =>
  kV P (Instr.extract v14 2) w fun v17 w =>
  kV P (binV .neq 91 (.tmp 18) (.const (.int .i64 0)) v17 (.int .i64 0)) w fun v19 w =>
  condK v19
  (K v17 w)
  (kV P (Instr.loadAt 109 v5) w fun v21 w =>
  kN P (callN (.func (.func 45) #[] #[]) #[v21]) w fun v22 w =>
  kV P (Instr.alloc 113 true (.tuple #[])) w fun v10 w =>
  kU P (Instr.storeAt 113 v10 v22) w fun _ w =>
  drewK (fun w =>
  sN P (nilN v15) w fun v24 =>
  sV P (Instr.fieldAt 139 v24 0) w fun v25 =>
  sV P (Instr.sliceAt 135 v25 (some v16) none none) w fun v27 =>
  sV P (Instr.sliceAt 113 v10 none none none) w fun v28 =>
  kV P (Builtin.copy_ #[31, 31] 3 #[v27, v28]) w fun v29 w =>
  joinL (fun J0 =>
  drewK (fun w =>
  pN P (nilN v15) fun v32 =>
  pV P (Instr.fieldAt 139 v32 1) fun v33 =>
  pV P (binV .quo 3 (.tmp 35) (.const (.int .i64 16)) v16 (.int .i64 16)) fun v36 =>
  pV P (Instr.fieldAt 109 v5 0) fun v37 =>
  (kV P (Instr.loadAt 137 v33) w fun v34 w =>
  kV P (Instr.loadAt 4 v37) w fun v38 w =>
  kN P (callN (.func (.func 73) #[] #[]) #[v34, v36, v38]) w fun v39 w =>
  pN P (nilN v15) fun v40 =>
  pV P (Instr.fieldAt 139 v40 1) fun v41 =>
  kU P (Instr.storeAt 137 v41 v39) w fun _ w =>
  J0 [] w) ∧
  (kV P (Instr.loadAt 4 v37) w fun v38_1 w =>
  kV P (Instr.loadAt 137 v33) w fun v34_1 w =>
  kN P (callN (.func (.func 73) #[] #[]) #[v34_1, v36, v38_1]) w fun v39_1 w =>
  pN P (nilN v15) fun v40_1 =>
  pV P (Instr.fieldAt 139 v40_1 1) fun v41_1 =>
  kU P (Instr.storeAt 137 v41_1 v39_1) w fun _ w =>
  J0 [] w)) w) fun s0 w => ∀ _ : Nat → Value,
  K (.int .i64 0) w) w)
theorem F43_eq (P : Program) (t0 t1 t2 : Value) (w : World) (K : Value → World → Prop) : funE P ⟨[(6, 999), (5, 6)], [], [(7, [])]⟩ Try.f43 [t0, t1, t2] w K = F43 P t0 t1 t2 w K := by kernel_rfl
theorem F43_ok (t0 t1 t2 : Value) (w : World) (K : Value → World → Prop) (h : F43 Try.prog t0 t1 t2 w K) : callsK Try.prog 43 #[t0, t1, t2] w K := calls_of_eq mixedM Try.func43 (F43_eq _ t0 t1 t2 w K) h

/-- (*mintmark/ram.Ram).LoadCap -/
def F44 (P : Program) (t0 t1 : Value) (w : World) (K : Value → World → Prop) : Prop :=
  kV P (Instr.alloc 109 true (.tuple #[])) w fun v4 w =>
  kN P (callN (.func (.func 61) #[] #[]) #[t0, t1, (.int .u64 16)]) w fun v12 w =>
  kV P (Instr.extract v12 0) w fun v13 w =>
  kV P (Instr.extract v12 1) w fun v14 w =>
  kV P (Instr.extract v12 2) w fun v15 w =>
  kV P (binV .neq 91 (.tmp 16) (.const (.int .i64 0)) v15 (.int .i64 0)) w fun v17 w =>
  condK v17
  (kV P (Instr.build 109 #[]) w fun v18 w =>
  kU P (Instr.storeAt 109 v4 v18) w fun _ w =>
  retV P 109 v4 w fun r0 =>
  K (.tuple #[r0, v15]) w)
  (drewK (fun w =>
  pN P (nilN v13) fun v21 =>
  pV P (Instr.fieldAt 139 v21 0) fun v22 =>
  pV P (binV .add 3 (.tmp 24) (.const (.int .i64 16)) v14 (.int .i64 16)) fun v25 =>
  pV P (Instr.sliceAt 135 v22 (some v14) (some v25) none) fun v26 =>
  pV P (Instr.arrayAt 113 v26) fun v27 =>
  pN P (nilN v13) fun v30 =>
  pV P (Instr.fieldAt 139 v30 1) fun v31 =>
  pV P (binV .quo 3 (.tmp 33) (.const (.int .i64 16)) v14 (.int .i64 16)) fun v34 =>
  (kV P (Instr.loadAt 113 v27) w fun v28 w =>
  kV P (Instr.loadAt 137 v31) w fun v32 w =>
  kN P (callN (.func (.func 75) #[] #[]) #[v32, v34]) w fun v35 w =>
  kN P (callN (.func (.func 74) #[] #[]) #[v28, v35]) w fun v36 w =>
  kU P (Instr.storeAt 109 v4 v36) w fun _ w =>
  retV P 109 v4 w fun r1 =>
  K (.tuple #[r1, (.int .i64 0)]) w) ∧
  (kV P (Instr.loadAt 137 v31) w fun v32_1 w =>
  (kV P (Instr.loadAt 113 v27) w fun v28_1 w =>
  kN P (callN (.func (.func 75) #[] #[]) #[v32_1, v34]) w fun v35_1 w =>
  kN P (callN (.func (.func 74) #[] #[]) #[v28_1, v35_1]) w fun v36_1 w =>
  kU P (Instr.storeAt 109 v4 v36_1) w fun _ w =>
  retV P 109 v4 w fun r2 =>
  K (.tuple #[r2, (.int .i64 0)]) w) ∧
  (kN P (callN (.func (.func 75) #[] #[]) #[v32_1, v34]) w fun v35_2 w =>
  kV P (Instr.loadAt 113 v27) w fun v28_2 w =>
  kN P (callN (.func (.func 74) #[] #[]) #[v28_2, v35_2]) w fun v36_2 w =>
  kU P (Instr.storeAt 109 v4 v36_2) w fun _ w =>
  retV P 109 v4 w fun r3 =>
  K (.tuple #[r3, (.int .i64 0)]) w))) w)
theorem F44_eq (P : Program) (t0 t1 : Value) (w : World) (K : Value → World → Prop) : funE P ⟨[(4, 999)], [], []⟩ Try.f44 [t0, t1] w K = F44 P t0 t1 w K := by kernel_rfl
theorem F44_ok (t0 t1 : Value) (w : World) (K : Value → World → Prop) (h : F44 Try.prog t0 t1 w K) : callsK Try.prog 44 #[t0, t1] w K := calls_of_eq mixedM Try.func44 (F44_eq _ t0 t1 w K) h

/-- mintmark/capab.Bytes -/
def F45 (P : Program) (t0 : Value) (w : World) (K : Value → World → Prop) : Prop :=
  kV P (Instr.box 109 t0) w fun v1 w =>
  kV P (Instr.alloc 113 true (.tuple #[])) w fun v2 w =>
  kV P (Instr.alloc 113 true (.tuple #[])) w fun v3 w =>
  loopT (fun R0 s0 w => ∀ _ : Nat → Value,
  kV P (binV .lss 3 (.tmp 5) (.const (.int .i64 8)) (s0.getD 0 undef) (.int .i64 8)) w fun v6 w =>
  condK v6
  (joinL (fun J2 =>
  drewK (fun w =>
  pV P (binV .add 3 (.const (.int .i64 8)) (.tmp 9) (.int .i64 8) (s0.getD 0 undef)) fun v10 =>
  pV P (Instr.fieldAt 109 v1 2) fun v11 =>
  pV P (binV .mul 3 (.const (.int .i64 8)) (.tmp 13) (.int .i64 8) (s0.getD 0 undef)) fun v14 =>
  pV P (Instr.fieldAt 109 v1 1) fun v17 =>
  pV P (binV .mul 3 (.const (.int .i64 8)) (.tmp 19) (.int .i64 8) (s0.getD 0 undef)) fun v20 =>
  (kV P (Instr.loadAt 22 v11) w fun v12 w =>
  pV P (binV .shr 22 (.tmp 12) (.tmp 14) v12 v14) fun v15 =>
  pV P (convert 22 5 v15) fun v16 =>
  pV P (Instr.indexAt 113 v3 (s0.getD 0 undef)) fun v23 =>
  (kV P (Instr.loadAt 22 v17) w fun v18 w =>
  pV P (binV .shr 22 (.tmp 18) (.tmp 20) v18 v20) fun v21 =>
  pV P (convert 22 5 v21) fun v22 =>
  kU P (Instr.storeAt 5 v23 v16) w fun _ w =>
  pV P (Instr.indexAt 113 v3 v10) fun v24 =>
  kU P (Instr.storeAt 5 v24 v22) w fun _ w =>
  J2 [] w) ∧
  (kU P (Instr.storeAt 5 v23 v16) w fun _ w =>
  kV P (Instr.loadAt 22 v17) w fun v18_1 w =>
  pV P (binV .shr 22 (.tmp 18) (.tmp 20) v18_1 v20) fun v21_1 =>
  pV P (convert 22 5 v21_1) fun v22_1 =>
  pV P (Instr.indexAt 113 v3 v10) fun v24_1 =>
  kU P (Instr.storeAt 5 v24_1 v22_1) w fun _ w =>
  J2 [] w)) ∧
  (kV P (Instr.loadAt 22 v17) w fun v18_2 w =>
  pV P (binV .shr 22 (.tmp 18) (.tmp 20) v18_2 v20) fun v21_2 =>
  pV P (convert 22 5 v21_2) fun v22_2 =>
  kV P (Instr.loadAt 22 v11) w fun v12_1 w =>
  pV P (binV .shr 22 (.tmp 12) (.tmp 14) v12_1 v14) fun v15_1 =>
  pV P (convert 22 5 v15_1) fun v16_1 =>
  pV P (Instr.indexAt 113 v3 (s0.getD 0 undef)) fun v23_1 =>
  kU P (Instr.storeAt 5 v23_1 v16_1) w fun _ w =>
  pV P (Instr.indexAt 113 v3 v10) fun v24_2 =>
  kU P (Instr.storeAt 5 v24_2 v22_2) w fun _ w =>
  J2 [] w)) w) fun s2 w => ∀ _ : Nat → Value,
  kV P (binV .add 3 (.tmp 5) (.const (.int .i64 1)) (s0.getD 0 undef) (.int .i64 1)) w fun v25 w =>
  R0 [v25] w)
  (kV P (Instr.loadAt 113 v3) w fun v26 w =>
  kU P (Instr.storeAt 113 v2 v26) w fun _ w =>
  retV P 113 v2 w fun r4 =>
  K r4 w)) [(.int .i64 0)] w
theorem F45_eq (P : Program) (t0 : Value) (w : World) (K : Value → World → Prop) : funE P ⟨[(5, 999)], [(3, [5])], [(6, [])]⟩ Try.f45 [t0] w K = F45 P t0 w K := by kernel_rfl
theorem F45_ok (t0 : Value) (w : World) (K : Value → World → Prop) (h : F45 Try.prog t0 w K) : callsK Try.prog 45 #[t0] w K := calls_of_eq mixedM Try.func45 (F45_eq _ t0 w K) h

/-- mintmark/ram.number -/
def F60 (P : Program) (t0 : Value) (w : World) (K : Value → World → Prop) : Prop :=
  joinL (fun J0 =>
  kV P (binV .eql 3 (.tmp 4) (.const (.int .i64 1)) t0 (.int .i64 1)) w fun v6 w =>
  condK v6
  (J0 [v6] w)
  (kV P (binV .eql 3 (.tmp 4) (.const (.int .i64 2)) t0 (.int .i64 2)) w fun v7 w =>
  condK v7
  (J0 [v7] w)
  (kV P (binV .eql 3 (.tmp 4) (.const (.int .i64 4)) t0 (.int .i64 4)) w fun v8 w =>
  condK v8
  (J0 [v8] w)
  (kV P (binV .eql 3 (.tmp 4) (.const (.int .i64 8)) t0 (.int .i64 8)) w fun v9 w =>
  J0 [v9] w)))) fun s0 w => ∀ _ : Nat → Value,
  condK (s0.getD 0 undef)
  (kV P (convert 3 22 t0) w fun v11 w =>
  K (.tuple #[v11, (.bool true)]) w)
  (K (.tuple #[(.int .u64 1), (.bool false)]) w)
theorem F60_eq (P : Program) (t0 : Value) (w : World) (K : Value → World → Prop) : funE P ⟨[], [], [(6, [5])]⟩ Try.f60 [t0] w K = F60 P t0 w K := by kernel_rfl
theorem F60_ok (t0 : Value) (w : World) (K : Value → World → Prop) (h : F60 Try.prog t0 w K) : callsK Try.prog 60 #[t0] w K := calls_of_eq mixedM Try.func60 (F60_eq _ t0 w K) h

/-- (*mintmark/ram.Ram).place -/
def F61 (P : Program) (t0 t1 t2 : Value) (w : World) (K : Value → World → Prop) : Prop :=
  kN P (callN (.func (.func 81) #[] #[]) #[t0]) w fun v11 w =>
  condK v11
  (K (.tuple #[(.pointer none), (.int .i64 0), (.int .i64 1)]) w)
  (kV P (binV .rem 22 (.tmp 13) (.tmp 14) t1 t2) w fun v15 w =>
  kV P (binV .neq 22 (.tmp 15) (.const (.int .u64 0)) v15 (.int .u64 0)) w fun v16 w =>
  joinK (fun J0 : Value → World → Prop => gdK (yb v16) false (fun k => k t1 w) w fun v18 w =>
  gdK (yb v16) false (fun k => kV P (binV .quo 22 (.tmp 18) (.const (.int .u64 4096)) v18 (.int .u64 4096)) w k) w fun v19 w =>
  gdK (yb v16) false (fun k => k t0 w) w fun v20 w =>
  gdK (yb v16) false (fun k => kN P (nilN v20) w k) w fun v21 w =>
  gdK (yb v16) false (fun k => kV P (Instr.fieldAt 129 v21 0) w k) w fun v22 w =>
  gdK (yb v16) false (fun k => kV P (Instr.loadAt 127 v22) w k) w fun v23 w =>
  gdK (yb v16) false (fun k => kV P (Builtin.len_ #[127] 3 #[v23]) w k) w fun v24 w =>
  gdK (yb v16) false (fun k => kV P (convert 3 22 v24) w k) w fun v25 w =>
  gdK (yb v16) false (fun k => kV P (binV .geq 22 (.tmp 19) (.tmp 25) v19 v25) w k) w fun v26 w =>
  kN P (pickN v16 (.bool true) v26) w fun v27_1 w =>
  J0 v27_1 w) fun v27 w =>
  condK v27
  (K (.tuple #[(.pointer none), (.int .i64 0), (.int .i64 2)]) w)
  (kN P (nilN t0) w fun v29 w =>
  kV P (Instr.fieldAt 129 v29 0) w fun v30 w =>
  kV P (Instr.loadAt 127 v30) w fun v31 w =>
  kV P (binV .quo 22 (.tmp 32) (.const (.int .u64 4096)) t1 (.int .u64 4096)) w fun v33 w =>
  kV P (Instr.indexAt 127 v31 v33) w fun v34 w =>
  kV P (binV .rem 22 (.tmp 35) (.const (.int .u64 4096)) t1 (.int .u64 4096)) w fun v36 w =>
  kV P (convert 22 3 v36) w fun v37 w =>
  K (.tuple #[v34, v37, (.int .i64 0)]) w))
theorem F61_eq (P : Program) (t0 t1 t2 : Value) (w : World) (K : Value → World → Prop) : funE P ⟨[], [], []⟩ Try.f61 [t0, t1, t2] w K = F61 P t0 t1 t2 w K := by kernel_rfl
theorem F61_ok (t0 t1 t2 : Value) (w : World) (K : Value → World → Prop) (h : F61 Try.prog t0 t1 t2 w K) : callsK Try.prog 61 #[t0, t1, t2] w K := calls_of_eq mixedM Try.func61 (F61_eq _ t0 t1 t2 w K) h

/-- mintmark/ram.each -/
def F62 (P : Program) (t0 t1 : Value) (w : World) (K : Value → World → Prop) : Prop :=
  loopT (fun R0 s0 w => ∀ _ : Nat → Value,
  kV P (binV .lss 3 (.tmp 6) (.tmp 5) (s0.getD 0 undef) t0) w fun v7 w =>
  condK v7
  (kN P (callN t1 #[(s0.getD 0 undef)]) w fun v11 w =>
  kV P (binV .add 3 (.tmp 6) (.const (.int .i64 1)) (s0.getD 0 undef) (.int .i64 1)) w fun v12 w =>
  R0 [v12] w)
  (K (.tuple #[]) w)) [(.int .i64 0)] w
theorem F62_eq (P : Program) (t0 t1 : Value) (w : World) (K : Value → World → Prop) : funE P ⟨[], [(1, [6])], []⟩ Try.f62 [t0, t1] w K = F62 P t0 t1 w K := by kernel_rfl
theorem F62_ok (t0 t1 : Value) (w : World) (K : Value → World → Prop) (h : F62 Try.prog t0 t1 w K) : callsK Try.prog 62 #[t0, t1] w K := calls_of_eq mixedM Try.func62 (F62_eq _ t0 t1 w K) h

/-- (*mintmark/ram.Ram).Store$1 -/
def F63 (P : Program) (t0 t1 t2 t3 : Value) (w : World) (K : Value → World → Prop) : Prop :=
  drewK (fun w =>
  sV P (Instr.loadAt 131 t2) w fun v5 =>
  sV P (Instr.loadAt 3 t3) w fun v6 =>
  sV P (binV .add 3 (.tmp 6) (.tmp 7) v6 t0) w fun v8 =>
  sV P (Instr.loadAt 22 t1) w fun v9 =>
  sV P (binV .mul 3 (.const (.int .i64 8)) (.tmp 10) (.int .i64 8) t0) w fun v11 =>
  sV P (binV .shr 22 (.tmp 9) (.tmp 11) v9 v11) w fun v12 =>
  sV P (convert 22 5 v12) w fun v13 =>
  sN P (nilN v5) w fun v14 =>
  sV P (Instr.fieldAt 139 v14 0) w fun v15 =>
  kV P (Instr.indexAt 135 v15 v8) w fun v16 w =>
  kU P (Instr.storeAt 5 v16 v13) w fun _ w =>
  K (.tuple #[]) w) w
theorem F63_eq (P : Program) (t0 t1 t2 t3 : Value) (w : World) (K : Value → World → Prop) : funE P ⟨[(0, 11)], [], []⟩ Try.f63 [t0, t1, t2, t3] w K = F63 P t0 t1 t2 t3 w K := by kernel_rfl
theorem F63_ok (t0 t1 t2 t3 : Value) (w : World) (K : Value → World → Prop) (h : F63 Try.prog t0 t1 t2 t3 w K) : callsK Try.prog 63 #[t0, t1, t2, t3] w K := calls_of_eq mixedM Try.func63 (F63_eq _ t0 t1 t2 t3 w K) h

/-- (mintmark/tags.Set).Without -/
def F64 (P : Program) (t0 t1 : Value) (w : World) (K : Value → World → Prop) : Prop :=
  kV P (Instr.box 137 t0) w fun v2 w =>
  kV P (Instr.box 137 t1) w fun v3 w =>
  kV P (Instr.alloc 137 true (.tuple #[])) w fun v4 w =>
  loopT (fun R0 s0 w => ∀ _ : Nat → Value,
  kV P (binV .lss 3 (.tmp 6) (.const (.int .i64 4)) (s0.getD 0 undef) (.int .i64 4)) w fun v7 w =>
  condK v7
  (drewK (fun w =>
  sV P (Instr.indexAt 137 v2 (s0.getD 0 undef)) w fun v10 =>
  sV P (Instr.loadAt 22 v10) w fun v11 =>
  sV P (Instr.indexAt 137 v3 (s0.getD 0 undef)) w fun v13 =>
  sV P (Instr.loadAt 22 v13) w fun v14 =>
  kV P (binV .andNot 22 (.tmp 11) (.tmp 14) v11 v14) w fun v15 w =>
  kV P (Instr.indexAt 137 v2 (s0.getD 0 undef)) w fun v16 w =>
  kU P (Instr.storeAt 22 v16 v15) w fun _ w =>
  kV P (binV .add 3 (.tmp 6) (.const (.int .i64 1)) (s0.getD 0 undef) (.int .i64 1)) w fun v17 w =>
  R0 [v17] w) w)
  (kV P (Instr.loadAt 137 v2) w fun v18 w =>
  kU P (Instr.storeAt 137 v4 v18) w fun _ w =>
  retV P 137 v4 w fun r2 =>
  K r2 w)) [(.int .i64 0)] w
theorem F64_eq (P : Program) (t0 t1 : Value) (w : World) (K : Value → World → Prop) : funE P ⟨[(4, 6)], [(2, [6])], []⟩ Try.f64 [t0, t1] w K = F64 P t0 t1 w K := by kernel_rfl
theorem F64_ok (t0 t1 : Value) (w : World) (K : Value → World → Prop) (h : F64 Try.prog t0 t1 w K) : callsK Try.prog 64 #[t0, t1] w K := calls_of_eq mixedM Try.func64 (F64_eq _ t0 t1 w K) h

/-- mintmark/tags.Cover -/
def F65 (P : Program) (t0 t1 : Value) (w : World) (K : Value → World → Prop) : Prop :=
  kV P (Instr.alloc 137 true (.tuple #[])) w fun v4 w =>
  kV P (Instr.alloc 137 true (.tuple #[])) w fun v5 w =>
  kV P (binV .lss 3 (.tmp 8) (.const (.int .i64 1)) t1 (.int .i64 1)) w fun v9 w =>
  joinK (fun J0 : Value → World → Prop => gdK (yb v9) false (fun k => k t0 w) w fun v11 w =>
  gdK (yb v9) false (fun k => kV P (binV .geq 3 (.tmp 11) (.const (.int .i64 4096)) v11 (.int .i64 4096)) w k) w fun v12 w =>
  kN P (pickN v9 (.bool true) v12) w fun v13_1 w =>
  J0 v13_1 w) fun v13 w =>
  condK v13
  (kV P (Instr.loadAt 137 v5) w fun v14 w =>
  kU P (Instr.storeAt 137 v4 v14) w fun _ w =>
  retV P 137 v4 w fun r1 =>
  K r1 w)
  (joinL (fun J2 =>
  kV P (binV .lss 3 (.tmp 15) (.const (.int .i64 0)) t0 (.int .i64 0)) w fun v16 w =>
  condK v16
  (kV P (binV .lss 3 (.tmp 17) (.const (.int .i64 (-4096))) t0 (.int .i64 (-4096))) w fun v18 w =>
  joinK (fun J8 : Value → World → Prop => gdK (yb v18) true (fun k => k t0 w) w fun v20 w =>
  gdK (yb v18) true (fun k => k t1 w) w fun v21 w =>
  gdK (yb v18) true (fun k => kV P (binV .add 3 (.tmp 20) (.tmp 21) v20 v21) w k) w fun v22 w =>
  gdK (yb v18) true (fun k => kV P (binV .leq 3 (.tmp 22) (.const (.int .i64 0)) v22 (.int .i64 0)) w k) w fun v23 w =>
  kN P (pickN v18 v23 (.bool false)) w fun v24_1 w =>
  J8 v24_1 w) fun v24 w =>
  joinK (fun J9 : Value → World → Prop => gdK (yb v24) false (fun k => k t1 w) w fun v26 w =>
  gdK (yb v24) false (fun k => k t0 w) w fun v27 w =>
  gdK (yb v24) false (fun k => kV P (Op.unary .neg v27) w k) w fun v28 w =>
  gdK (yb v24) false (fun k => kV P (binV .leq 3 (.tmp 26) (.tmp 28) v26 v28) w k) w fun v29 w =>
  kN P (pickN v24 (.bool true) v29) w fun v30_1 w =>
  J9 v30_1 w) fun v30 w =>
  condK v30
  (kV P (Instr.loadAt 137 v5) w fun v31 w =>
  kU P (Instr.storeAt 137 v4 v31) w fun _ w =>
  retV P 137 v4 w fun r10 =>
  K r10 w)
  (kV P (binV .add 3 (.tmp 32) (.tmp 33) t1 t0) w fun v34 w =>
  J2 [(.int .i64 0), v34] w))
  (J2 [t0, t1] w)) fun s2 w => ∀ _ : Nat → Value,
  kV P (binV .sub 3 (.const (.int .i64 4096)) (.tmp 37) (.int .i64 4096) (s2.getD 0 undef)) w fun v38 w =>
  kV P (Builtin.min_ #[3, 3] 3 #[(s2.getD 1 undef), v38]) w fun v39 w =>
  kV P (binV .add 3 (.tmp 35) (.tmp 39) (s2.getD 0 undef) v39) w fun v40 w =>
  kV P (binV .sub 3 (.tmp 40) (.const (.int .i64 1)) v40 (.int .i64 1)) w fun v41 w =>
  loopT (fun R4 s4 w => ∀ _ : Nat → Value,
  kV P (binV .lss 3 (.tmp 42) (.const (.int .i64 256)) (s4.getD 0 undef) (.int .i64 256)) w fun v43 w =>
  condK v43
  (kV P (Instr.loadAt 137 v5) w fun v45 w =>
  kV P (binV .quo 3 (.tmp 48) (.const (.int .i64 16)) (s2.getD 0 undef) (.int .i64 16)) w fun v49 w =>
  kV P (binV .geq 3 (.tmp 47) (.tmp 49) (s4.getD 0 undef) v49) w fun v50 w =>
  joinK (fun J6 : Value → World → Prop => gdK (yb v50) true (fun k => k (s4.getD 0 undef) w) w fun v52 w =>
  gdK (yb v50) true (fun k => k v41 w) w fun v53 w =>
  gdK (yb v50) true (fun k => kV P (binV .quo 3 (.tmp 53) (.const (.int .i64 16)) v53 (.int .i64 16)) w k) w fun v54 w =>
  gdK (yb v50) true (fun k => kV P (binV .leq 3 (.tmp 52) (.tmp 54) v52 v54) w k) w fun v55 w =>
  kN P (pickN v50 v55 (.bool false)) w fun v56_1 w =>
  J6 v56_1 w) fun v56 w =>
  kN P (callN (.func (.func 73) #[] #[]) #[v45, (s4.getD 0 undef), v56]) w fun v57 w =>
  kU P (Instr.storeAt 137 v5 v57) w fun _ w =>
  kV P (binV .add 3 (.tmp 42) (.const (.int .i64 1)) (s4.getD 0 undef) (.int .i64 1)) w fun v58 w =>
  R4 [v58] w)
  (kV P (Instr.loadAt 137 v5) w fun v59 w =>
  kU P (Instr.storeAt 137 v4 v59) w fun _ w =>
  retV P 137 v4 w fun r7 =>
  K r7 w)) [(.int .i64 0)] w)
theorem F65_eq (P : Program) (t0 t1 : Value) (w : World) (K : Value → World → Prop) : funE P ⟨[], [(10, [42])], [(8, [0, 1])]⟩ Try.f65 [t0, t1] w K = F65 P t0 t1 w K := by kernel_rfl
theorem F65_ok (t0 t1 : Value) (w : World) (K : Value → World → Prop) (h : F65 Try.prog t0 t1 w K) : callsK Try.prog 65 #[t0, t1] w K := calls_of_eq mixedM Try.func65 (F65_eq _ t0 t1 w K) h

/-- (*mintmark/ram.Ram).Load$1 -/
def F66 (P : Program) (t0 t1 t2 t3 : Value) (w : World) (K : Value → World → Prop) : Prop :=
  drewK (fun w =>
  sV P (Instr.loadAt 22 t1) w fun v5 =>
  sV P (Instr.loadAt 131 t2) w fun v6 =>
  sV P (Instr.loadAt 3 t3) w fun v7 =>
  sV P (binV .add 3 (.tmp 7) (.tmp 8) v7 t0) w fun v9 =>
  sN P (nilN v6) w fun v10 =>
  sV P (Instr.fieldAt 139 v10 0) w fun v11 =>
  sV P (Instr.indexAt 135 v11 v9) w fun v12 =>
  sV P (Instr.loadAt 5 v12) w fun v13 =>
  sV P (convert 5 22 v13) w fun v14 =>
  sV P (binV .mul 3 (.const (.int .i64 8)) (.tmp 15) (.int .i64 8) t0) w fun v16 =>
  sV P (binV .shl 22 (.tmp 14) (.tmp 16) v14 v16) w fun v17 =>
  kV P (binV .or 22 (.tmp 5) (.tmp 17) v5 v17) w fun v18 w =>
  kU P (Instr.storeAt 22 t1 v18) w fun _ w =>
  K (.tuple #[]) w) w
theorem F66_eq (P : Program) (t0 t1 t2 t3 : Value) (w : World) (K : Value → World → Prop) : funE P ⟨[(0, 13)], [], []⟩ Try.f66 [t0, t1, t2, t3] w K = F66 P t0 t1 t2 t3 w K := by kernel_rfl
theorem F66_ok (t0 t1 t2 t3 : Value) (w : World) (K : Value → World → Prop) (h : F66 Try.prog t0 t1 t2 t3 w K) : callsK Try.prog 66 #[t0, t1, t2, t3] w K := calls_of_eq mixedM Try.func66 (F66_eq _ t0 t1 t2 t3 w K) h

/-- (mintmark/tags.Set).With -/
def F73 (P : Program) (t0 t1 t2 : Value) (w : World) (K : Value → World → Prop) : Prop :=
  kV P (Instr.box 137 t0) w fun v3 w =>
  kV P (Instr.alloc 137 true (.tuple #[])) w fun v6 w =>
  kN P (callN (.func (.func 84) #[] #[]) #[t1]) w fun v9 w =>
  kV P (Op.unary .not v9) w fun v10 w =>
  condK v10
  (kV P (Instr.loadAt 137 v3) w fun v11 w =>
  kU P (Instr.storeAt 137 v6 v11) w fun _ w =>
  retV P 137 v6 w fun r0 =>
  K r0 w)
  (kV P (binV .rem 3 (.tmp 12) (.const (.int .i64 64)) t1 (.int .i64 64)) w fun v13 w =>
  kV P (binV .shl 22 (.const (.int .u64 1)) (.tmp 13) (.int .u64 1) v13) w fun v14 w =>
  joinL (fun J1 =>
  condK t2
  (kV P (binV .quo 3 (.tmp 16) (.const (.int .i64 64)) t1 (.int .i64 64)) w fun v17 w =>
  kV P (Instr.indexAt 137 v3 v17) w fun v18 w =>
  kV P (Instr.loadAt 22 v18) w fun v19 w =>
  kV P (binV .or 22 (.tmp 19) (.tmp 20) v19 v14) w fun v21 w =>
  kV P (Instr.indexAt 137 v3 v17) w fun v22 w =>
  kU P (Instr.storeAt 22 v22 v21) w fun _ w =>
  J1 [] w)
  (kV P (binV .quo 3 (.tmp 23) (.const (.int .i64 64)) t1 (.int .i64 64)) w fun v24 w =>
  kV P (Instr.indexAt 137 v3 v24) w fun v25 w =>
  kV P (Instr.loadAt 22 v25) w fun v26 w =>
  kV P (binV .andNot 22 (.tmp 26) (.tmp 27) v26 v14) w fun v28 w =>
  kV P (Instr.indexAt 137 v3 v24) w fun v29 w =>
  kU P (Instr.storeAt 22 v29 v28) w fun _ w =>
  J1 [] w)) fun s1 w => ∀ _ : Nat → Value,
  kV P (Instr.loadAt 137 v3) w fun v30 w =>
  kU P (Instr.storeAt 137 v6 v30) w fun _ w =>
  retV P 137 v6 w fun r3 =>
  K r3 w)
theorem F73_eq (P : Program) (t0 t1 t2 : Value) (w : World) (K : Value → World → Prop) : funE P ⟨[], [], [(7, [])]⟩ Try.f73 [t0, t1, t2] w K = F73 P t0 t1 t2 w K := by kernel_rfl
theorem F73_ok (t0 t1 t2 : Value) (w : World) (K : Value → World → Prop) (h : F73 Try.prog t0 t1 t2 w K) : callsK Try.prog 73 #[t0, t1, t2] w K := calls_of_eq mixedM Try.func73 (F73_eq _ t0 t1 t2 w K) h

/-- mintmark/capab.Of -/
def F74 (P : Program) (t0 t1 : Value) (w : World) (K : Value → World → Prop) : Prop :=
  kV P (Instr.box 113 t0) w fun v2 w =>
  kV P (Instr.alloc 109 true (.tuple #[])) w fun v4 w =>
  drewK (fun w =>
  pV P (Instr.sliceAt 113 v2 (some (.int .i64 8)) none none) fun v6 =>
  pV P (Instr.sliceAt 113 v2 none (some (.int .i64 8)) none) fun v8 =>
  kN P (callN (.func (.func 85) #[] #[]) #[v6]) w fun v7 w =>
  kN P (callN (.func (.func 85) #[] #[]) #[v8]) w fun v9 w =>
  pV P (Instr.build 109 #[(0, t1), (1, v7), (2, v9)]) fun v10 =>
  kU P (Instr.storeAt 109 v4 v10) w fun _ w =>
  retV P 109 v4 w fun r0 =>
  K r0 w) w
theorem F74_eq (P : Program) (t0 t1 : Value) (w : World) (K : Value → World → Prop) : funE P ⟨[(1, 999)], [], []⟩ Try.f74 [t0, t1] w K = F74 P t0 t1 w K := by kernel_rfl
theorem F74_ok (t0 t1 : Value) (w : World) (K : Value → World → Prop) (h : F74 Try.prog t0 t1 w K) : callsK Try.prog 74 #[t0, t1] w K := calls_of_eq mixedM Try.func74 (F74_eq _ t0 t1 w K) h

/-- (mintmark/tags.Set).Get -/
def F75 (P : Program) (t0 t1 : Value) (w : World) (K : Value → World → Prop) : Prop :=
  kV P (Instr.box 137 t0) w fun v2 w =>
  kN P (callN (.func (.func 84) #[] #[]) #[t1]) w fun v6 w =>
  joinK (fun J0 : Value → World → Prop => gdK (yb v6) true (fun k => k t1 w) w fun v8 w =>
  gdK (yb v6) true (fun k => kV P (binV .quo 3 (.tmp 8) (.const (.int .i64 64)) v8 (.int .i64 64)) w k) w fun v9 w =>
  gdK (yb v6) true (fun k => kV P (Instr.indexAt 137 v2 v9) w k) w fun v10 w =>
  gdK (yb v6) true (fun k => kV P (Instr.loadAt 22 v10) w k) w fun v11 w =>
  gdK (yb v6) true (fun k => k t1 w) w fun v12 w =>
  gdK (yb v6) true (fun k => kV P (binV .rem 3 (.tmp 12) (.const (.int .i64 64)) v12 (.int .i64 64)) w k) w fun v13 w =>
  gdK (yb v6) true (fun k => kV P (binV .shr 22 (.tmp 11) (.tmp 13) v11 v13) w k) w fun v14 w =>
  gdK (yb v6) true (fun k => kV P (binV .and 22 (.tmp 14) (.const (.int .u64 1)) v14 (.int .u64 1)) w k) w fun v15 w =>
  gdK (yb v6) true (fun k => kV P (binV .neq 22 (.tmp 15) (.const (.int .u64 0)) v15 (.int .u64 0)) w k) w fun v16 w =>
  kN P (pickN v6 v16 (.bool false)) w fun v17_1 w =>
  J0 v17_1 w) fun v17 w =>
  K v17 w
theorem F75_eq (P : Program) (t0 t1 : Value) (w : World) (K : Value → World → Prop) : funE P ⟨[], [], []⟩ Try.f75 [t0, t1] w K = F75 P t0 t1 w K := by kernel_rfl
theorem F75_ok (t0 t1 : Value) (w : World) (K : Value → World → Prop) (h : F75 Try.prog t0 t1 w K) : callsK Try.prog 75 #[t0, t1] w K := calls_of_eq mixedM Try.func75 (F75_eq _ t0 t1 w K) h

/-- (*mintmark/ram.Ram).none -/
def F81 (P : Program) (t0 : Value) (w : World) (K : Value → World → Prop) : Prop :=
  kV P (binV .eql 90 (.tmp 3) (.const (.pointer none)) t0 (.pointer none)) w fun v4 w =>
  joinK (fun J0 : Value → World → Prop => gdK (yb v4) false (fun k => k t0 w) w fun v6 w =>
  gdK (yb v4) false (fun k => kN P (nilN v6) w k) w fun v7 w =>
  gdK (yb v4) false (fun k => kV P (Instr.fieldAt 129 v7 0) w k) w fun v8 w =>
  gdK (yb v4) false (fun k => kV P (Instr.loadAt 127 v8) w k) w fun v9 w =>
  gdK (yb v4) false (fun k => kV P (Builtin.len_ #[127] 3 #[v9]) w k) w fun v10 w =>
  gdK (yb v4) false (fun k => kV P (binV .eql 3 (.tmp 10) (.const (.int .i64 0)) v10 (.int .i64 0)) w k) w fun v11 w =>
  kN P (pickN v4 (.bool true) v11) w fun v12_1 w =>
  J0 v12_1 w) fun v12 w =>
  K v12 w
theorem F81_eq (P : Program) (t0 : Value) (w : World) (K : Value → World → Prop) : funE P ⟨[], [], []⟩ Try.f81 [t0] w K = F81 P t0 w K := by kernel_rfl
theorem F81_ok (t0 : Value) (w : World) (K : Value → World → Prop) (h : F81 Try.prog t0 w K) : callsK Try.prog 81 #[t0] w K := calls_of_eq mixedM Try.func81 (F81_eq _ t0 w K) h

/-- mintmark/tags.is -/
def F84 (P : Program) (t0 : Value) (w : World) (K : Value → World → Prop) : Prop :=
  kV P (binV .geq 3 (.tmp 3) (.const (.int .i64 0)) t0 (.int .i64 0)) w fun v4 w =>
  joinK (fun J0 : Value → World → Prop => gdK (yb v4) true (fun k => k t0 w) w fun v6 w =>
  gdK (yb v4) true (fun k => kV P (binV .lss 3 (.tmp 6) (.const (.int .i64 256)) v6 (.int .i64 256)) w k) w fun v7 w =>
  kN P (pickN v4 v7 (.bool false)) w fun v8_1 w =>
  J0 v8_1 w) fun v8 w =>
  K v8 w
theorem F84_eq (P : Program) (t0 : Value) (w : World) (K : Value → World → Prop) : funE P ⟨[], [], []⟩ Try.f84 [t0] w K = F84 P t0 w K := by kernel_rfl
theorem F84_ok (t0 : Value) (w : World) (K : Value → World → Prop) (h : F84 Try.prog t0 w K) : callsK Try.prog 84 #[t0] w K := calls_of_eq mixedM Try.func84 (F84_eq _ t0 w K) h

/-- mintmark/capab.number -/
def F85 (P : Program) (t0 : Value) (w : World) (K : Value → World → Prop) : Prop :=
  kV P (Builtin.len_ #[31] 3 #[t0]) w fun v7 w =>
  loopT (fun R0 s0 w => ∀ _ : Nat → Value,
  kV P (binV .lss 3 (.tmp 8) (.tmp 7) (s0.getD 1 undef) v7) w fun v9 w =>
  condK v9
  (kV P (Instr.indexAt 31 t0 (s0.getD 1 undef)) w fun v11 w =>
  kV P (Instr.loadAt 5 v11) w fun v12 w =>
  kV P (convert 5 22 v12) w fun v15 w =>
  kV P (binV .mul 3 (.const (.int .i64 8)) (.tmp 16) (.int .i64 8) (s0.getD 1 undef)) w fun v17 w =>
  kV P (binV .shl 22 (.tmp 15) (.tmp 17) v15 v17) w fun v18 w =>
  kV P (binV .or 22 (.tmp 13) (.tmp 18) (s0.getD 0 undef) v18) w fun v19 w =>
  kV P (binV .add 3 (.tmp 8) (.const (.int .i64 1)) (s0.getD 1 undef) (.int .i64 1)) w fun v20 w =>
  R0 [v19, v20] w)
  (K (s0.getD 0 undef) w)) [(.int .u64 0), (.int .i64 0)] w
theorem F85_eq (P : Program) (t0 : Value) (w : World) (K : Value → World → Prop) : funE P ⟨[], [(3, [3, 8])], []⟩ Try.f85 [t0] w K = F85 P t0 w K := by kernel_rfl
theorem F85_ok (t0 : Value) (w : World) (K : Value → World → Prop) (h : F85 Try.prog t0 w K) : callsK Try.prog 85 #[t0] w K := calls_of_eq mixedM Try.func85 (F85_eq _ t0 w K) h

end Go.Proofs.Ytlklhempbpphhaa
