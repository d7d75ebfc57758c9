/- The formulas of functions of this seat, each tied to its calls; conditions: none. -/
import Derived.Test.YtlklhempbpphhaaProg
import Derived.Test.YtlklhempbpphhaaFx
import Derived.KernelRfl
namespace Go.Proofs.Ytlklhempbpphhaa
open Go.Fx
set_option linter.unusedVariables false
set_option linter.constructorNameAsVariable false
set_option maxRecDepth 100000
theorem mixedT : Try.prog.follows .mixedOrders = true := by kernel_rfl
/-- mintmark/mintmarklaw11.TlbSets -/
def F5 (P : Program) (t0 t1 : Value) (w : World) (K : Value → World → Prop) : Prop :=
  kV P (Instr.alloc 58 true (.tuple #[])) w fun v5 w =>
  kV P (Instr.build 52 #[(0, (.int .u64 77)), (1, t1)]) w fun v14 w =>
  kN P (callN (.func (.func 20) #[] #[]) #[v5, v14]) w fun v15 w =>
  loopT (fun R0 s0 w => ∀ _ : Nat → Value,
  kV P (Builtin.len_ #[46] 3 #[t0]) w fun v18 w =>
  kV P (binV .lss 3 (.tmp 16) (.tmp 18) (s0.getD 0 undef) v18) w fun v19 w =>
  joinK (fun J2 : Value → World → Prop => gdK (yb v19) true (fun k => k (s0.getD 0 undef) w) w fun v21 w =>
  gdK (yb v19) true (fun k => kV P (binV .lss 3 (.tmp 21) (.const (.int .i64 60)) v21 (.int .i64 60)) w k) w fun v22 w =>
  kN P (pickN v19 v22 (.bool false)) w fun v23_1 w =>
  J2 v23_1 w) fun v23 w =>
  condK v23
  (kV P (Instr.indexAt 46 t0 (s0.getD 0 undef)) w fun v28 w =>
  kV P (Instr.loadAt 61 v28) w fun v29 w =>
  kV P (Instr.alloc 61 true (.tuple #[])) w fun v7 w =>
  kU P (Instr.storeAt 61 v7 v29) w fun _ w =>
  joinL (fun J3 =>
  kV P (Instr.fieldAt 61 v7 3) w fun v30 w =>
  kV P (Instr.loadAt 22 v30) w fun v31 w =>
  kV P (binV .rem 22 (.tmp 31) (.const (.int .u64 4)) v31 (.int .u64 4)) w fun v32 w =>
  kV P (binV .rem 22 (.tmp 33) (.const (.int .u64 4)) t1 (.int .u64 4)) w fun v34 w =>
  kV P (binV .eql 22 (.tmp 32) (.tmp 34) v32 v34) w fun v35 w =>
  condK v35
  (kV P (Instr.fieldAt 61 v7 3) w fun v36 w =>
  kV P (Instr.loadAt 22 v36) w fun v37 w =>
  kV P (binV .add 22 (.tmp 37) (.const (.int .u64 1)) v37 (.int .u64 1)) w fun v38 w =>
  kV P (Instr.fieldAt 61 v7 3) w fun v39 w =>
  kU P (Instr.storeAt 22 v39 v38) w fun _ w =>
  J3 [] w)
  (J3 [] w)) fun s3 w => ∀ _ : Nat → Value,
  joinL (fun J5 =>
  kV P (Instr.fieldAt 61 v7 3) w fun v40 w =>
  kV P (Instr.loadAt 22 v40) w fun v41 w =>
  kV P (binV .rem 22 (.tmp 41) (.const (.int .u64 4)) v41 (.int .u64 4)) w fun v42 w =>
  kV P (binV .rem 22 (.tmp 43) (.const (.int .u64 4)) t1 (.int .u64 4)) w fun v44 w =>
  kV P (binV .neq 22 (.tmp 42) (.tmp 44) v42 v44) w fun v45 w =>
  condK v45
  (kV P (Instr.loadAt 61 v7) w fun v46 w =>
  kN P (callN (.func (.func 21) #[] #[]) #[v46]) w fun v47 w =>
  kN P (callN (.func (.func 20) #[] #[]) #[v5, v47]) w fun v48 w =>
  J5 [] w)
  (J5 [] w)) fun s5 w => ∀ _ : Nat → Value,
  kV P (Instr.alloc 63 true (.tuple #[])) w fun v8 w =>
  kN P (callN (.func (.func 22) #[] #[]) #[v5]) w fun v49 w =>
  loopT (fun R7 s7 w => ∀ _ : Nat → Value,
  kV P (Builtin.len_ #[64] 3 #[v49]) w fun v52 w =>
  kV P (binV .lss 3 (.tmp 50) (.tmp 52) (s7.getD 0 undef) v52) w fun v53 w =>
  condK v53
  (kV P (Instr.indexAt 64 v49 (s7.getD 0 undef)) w fun v58 w =>
  kV P (Instr.fieldAt 52 v58 1) w fun v59 w =>
  kV P (Instr.loadAt 22 v59) w fun v60 w =>
  kV P (binV .rem 22 (.tmp 60) (.const (.int .u64 4)) v60 (.int .u64 4)) w fun v61 w =>
  kV P (Instr.indexAt 63 v8 v61) w fun v62 w =>
  kV P (Instr.loadAt 3 v62) w fun v63 w =>
  kV P (binV .add 3 (.tmp 63) (.const (.int .i64 1)) v63 (.int .i64 1)) w fun v64 w =>
  kV P (Instr.indexAt 63 v8 v61) w fun v65 w =>
  kU P (Instr.storeAt 3 v65 v64) w fun _ w =>
  drewK (fun w =>
  sV P (binV .gtr 3 (.tmp 66) (.const (.int .i64 0)) (s7.getD 0 undef) (.int .i64 0)) w fun v67 =>
  joinK (fun J9 : Value → Prop => gdS (yb v67) true (fun k => k v49) fun v69 =>
  gdS (yb v67) true (fun k => k (s7.getD 0 undef)) fun v70 =>
  gdS (yb v67) true (fun k => sV P (Instr.indexAt 64 v69 v70) w k) fun v71 =>
  gdS (yb v67) true (fun k => sV P (Instr.fieldAt 52 v71 1) w k) fun v72 =>
  gdS (yb v67) true (fun k => sV P (Instr.loadAt 22 v72) w k) fun v73 =>
  gdS (yb v67) true (fun k => sV P (binV .rem 22 (.tmp 73) (.const (.int .u64 4)) v73 (.int .u64 4)) w k) fun v74 =>
  gdS (yb v67) true (fun k => k v49) fun v75 =>
  gdS (yb v67) true (fun k => k (s7.getD 0 undef)) fun v76 =>
  gdS (yb v67) true (fun k => sV P (binV .sub 3 (.tmp 76) (.const (.int .i64 1)) v76 (.int .i64 1)) w k) fun v77 =>
  gdS (yb v67) true (fun k => sV P (Instr.indexAt 64 v75 v77) w k) fun v78 =>
  gdS (yb v67) true (fun k => sV P (Instr.fieldAt 52 v78 1) w k) fun v79 =>
  gdS (yb v67) true (fun k => sV P (Instr.loadAt 22 v79) w k) fun v80 =>
  gdS (yb v67) true (fun k => sV P (binV .rem 22 (.tmp 80) (.const (.int .u64 4)) v80 (.int .u64 4)) w k) fun v81 =>
  gdS (yb v67) true (fun k => sV P (binV .lss 22 (.tmp 74) (.tmp 81) v74 v81) w k) fun v82 =>
  sN P (pickN v67 v82 (.bool false)) w fun v83_1 =>
  J9 v83_1) fun v83 =>
  condK v83
  (K (.bool false) w)
  (kV P (binV .add 3 (.tmp 54) (.const (.int .i64 1)) (s7.getD 0 undef) (.int .i64 1)) w fun v55 w =>
  R7 [v55] w)) w)
  (kV P (Instr.indexAt 63 v8 (.int .i64 0)) w fun v84 w =>
  kV P (Instr.loadAt 3 v84) w fun v85 w =>
  kV P (binV .gtr 3 (.tmp 85) (.const (.int .i64 2)) v85 (.int .i64 2)) w fun v86 w =>
  joinK (fun J10 : Value → World → Prop => gdK (yb v86) false (fun k => kV P (Instr.indexAt 63 v8 (.int .i64 1)) w k) w fun v88 w =>
  gdK (yb v86) false (fun k => kV P (Instr.loadAt 3 v88) w k) w fun v89 w =>
  gdK (yb v86) false (fun k => kV P (binV .gtr 3 (.tmp 89) (.const (.int .i64 2)) v89 (.int .i64 2)) w k) w fun v90 w =>
  kN P (pickN v86 (.bool true) v90) w fun v91_1 w =>
  J10 v91_1 w) fun v91 w =>
  joinK (fun J11 : Value → World → Prop => gdK (yb v91) false (fun k => kV P (Instr.indexAt 63 v8 (.int .i64 2)) w k) w fun v93 w =>
  gdK (yb v91) false (fun k => kV P (Instr.loadAt 3 v93) w k) w fun v94 w =>
  gdK (yb v91) false (fun k => kV P (binV .gtr 3 (.tmp 94) (.const (.int .i64 2)) v94 (.int .i64 2)) w k) w fun v95 w =>
  kN P (pickN v91 (.bool true) v95) w fun v96_1 w =>
  J11 v96_1 w) fun v96 w =>
  joinK (fun J12 : Value → World → Prop => gdK (yb v96) false (fun k => kV P (Instr.indexAt 63 v8 (.int .i64 3)) w k) w fun v98 w =>
  gdK (yb v96) false (fun k => kV P (Instr.loadAt 3 v98) w k) w fun v99 w =>
  gdK (yb v96) false (fun k => kV P (binV .gtr 3 (.tmp 99) (.const (.int .i64 2)) v99 (.int .i64 2)) w k) w fun v100 w =>
  kN P (pickN v96 (.bool true) v100) w fun v101_1 w =>
  J12 v101_1 w) fun v101 w =>
  condK v101
  (K (.bool false) w)
  (kV P (binV .add 3 (.tmp 24) (.const (.int .i64 1)) (s0.getD 0 undef) (.int .i64 1)) w fun v25 w =>
  R0 [v25] w))) [(.int .i64 0)] w)
  (kN P (callN (.func (.func 23) #[] #[]) #[v5, (.int .u64 77), t1]) w fun v104 w =>
  kV P (Instr.extract v104 0) w fun v105 w =>
  kV P (Instr.extract v104 1) w fun v106 w =>
  kV P (Instr.alloc 52 true (.tuple #[])) w fun v11 w =>
  kU P (Instr.storeAt 52 v11 v105) w fun _ w =>
  joinK (fun J13 : Value → World → Prop => gdK (yb v106) true (fun k => kN P (callN (.func (.func 24) #[] #[]) #[]) w k) w fun v109 w =>
  kN P (pickN v106 v109 (.bool false)) w fun v110_1 w =>
  J13 v110_1 w) fun v110 w =>
  K v110 w)) [(.int .i64 0)] w
theorem F5_eq (P : Program) (t0 t1 : Value) (w : World) (K : Value → World → Prop) : funE P ⟨[], [(4, [6]), (14, [10])], [(9, []), (11, [])]⟩ Try.f5 [t0, t1] w K = F5 P t0 t1 w K := by kernel_rfl
theorem F5_ok (t0 t1 : Value) (w : World) (K : Value → World → Prop) (h : F5 Try.prog t0 t1 w K) : callsK Try.prog 5 #[t0, t1] w K := calls_of_eq mixedT Try.func5 (F5_eq _ t0 t1 w K) h

/-- mintmark/mintmarklaw11.TlbPlays -/
def F6 (P : Program) (t0 : Value) (w : World) (K : Value → World → Prop) : Prop :=
  kV P (Instr.alloc 58 true (.tuple #[])) w fun v3 w =>
  loopT (fun R0 s0 w => ∀ _ : Nat → Value,
  kV P (Builtin.len_ #[46] 3 #[t0]) w fun v13 w =>
  kV P (binV .lss 3 (.tmp 11) (.tmp 13) (s0.getD 1 undef) v13) w fun v14 w =>
  joinK (fun J2 : Value → World → Prop => gdK (yb v14) true (fun k => k (s0.getD 1 undef) w) w fun v16 w =>
  gdK (yb v14) true (fun k => kV P (binV .lss 3 (.tmp 16) (.const (.int .i64 100)) v16 (.int .i64 100)) w k) w fun v17 w =>
  kN P (pickN v14 v17 (.bool false)) w fun v18_1 w =>
  J2 v18_1 w) fun v18 w =>
  condK v18
  (kV P (Instr.indexAt 46 t0 (s0.getD 1 undef)) w fun v23 w =>
  kV P (Instr.loadAt 61 v23) w fun v24 w =>
  kV P (Instr.alloc 61 true (.tuple #[])) w fun v6 w =>
  kU P (Instr.storeAt 61 v6 v24) w fun _ w =>
  joinL (fun J3 =>
  kV P (Instr.fieldAt 61 v6 0) w fun v25 w =>
  kV P (Instr.loadAt 3 v25) w fun v26 w =>
  kV P (binV .eql 3 (.tmp 26) (.const (.int .i64 0)) v26 (.int .i64 0)) w fun v28 w =>
  condK v28
  (kV P (Instr.loadAt 61 v6) w fun v29 w =>
  kN P (callN (.func (.func 21) #[] #[]) #[v29]) w fun v30 w =>
  kN P (callN (.func (.func 20) #[] #[]) #[v3, v30]) w fun v31 w =>
  kV P (Instr.fieldAt 61 v6 2) w fun v33 w =>
  kV P (Instr.loadAt 22 v33) w fun v34 w =>
  kV P (Instr.fieldAt 61 v6 3) w fun v35 w =>
  kV P (Instr.loadAt 22 v35) w fun v36 w =>
  kV P (Instr.fieldAt 61 v6 4) w fun v37 w =>
  kV P (Instr.loadAt 22 v37) w fun v38 w =>
  kV P (Instr.build 73 #[(0, v34), (1, v36), (2, v38)]) w fun v39 w =>
  kN P (callN (.func (.func 25) #[] #[]) #[(s0.getD 0 undef), v39]) w fun v40 w =>
  J3 [v40] w)
  (kV P (binV .eql 3 (.tmp 26) (.const (.int .i64 1)) v26 (.int .i64 1)) w fun v42 w =>
  condK v42
  (kV P (Instr.fieldAt 61 v6 2) w fun v44 w =>
  kV P (Instr.loadAt 22 v44) w fun v45 w =>
  kV P (Instr.fieldAt 61 v6 3) w fun v46 w =>
  kV P (Instr.loadAt 22 v46) w fun v47 w =>
  kN P (callN (.func (.func 23) #[] #[]) #[v3, v45, v47]) w fun v48 w =>
  kV P (Instr.extract v48 0) w fun v49 w =>
  kV P (Instr.extract v48 1) w fun v50 w =>
  kV P (Instr.alloc 52 true (.tuple #[])) w fun v7 w =>
  kU P (Instr.storeAt 52 v7 v49) w fun _ w =>
  kV P (Instr.fieldAt 61 v6 2) w fun v53 w =>
  kV P (Instr.loadAt 22 v53) w fun v54 w =>
  kV P (Instr.fieldAt 61 v6 3) w fun v55 w =>
  kV P (Instr.loadAt 22 v55) w fun v56 w =>
  kN P (callN (.func (.func 26) #[] #[]) #[(s0.getD 0 undef), v54, v56]) w fun v57 w =>
  kV P (Instr.extract v57 0) w fun v58 w =>
  kV P (Instr.extract v57 1) w fun v59 w =>
  kV P (Instr.alloc 73 true (.tuple #[])) w fun v9 w =>
  kU P (Instr.storeAt 73 v9 v58) w fun _ w =>
  kV P (binV .neq 4 (.tmp 60) (.tmp 61) v50 v59) w fun v62 w =>
  joinK (fun J5 : Value → World → Prop => gdK (yb v62) false (fun k => kV P (Instr.fieldAt 52 v7 0) w k) w fun v64 w =>
  gdK (yb v62) false (fun k => kV P (Instr.loadAt 22 v64) w k) w fun v65 w =>
  gdK (yb v62) false (fun k => kV P (Instr.fieldAt 73 v9 0) w k) w fun v66 w =>
  gdK (yb v62) false (fun k => kV P (Instr.loadAt 22 v66) w k) w fun v67 w =>
  gdK (yb v62) false (fun k => kV P (binV .neq 22 (.tmp 65) (.tmp 67) v65 v67) w k) w fun v68 w =>
  kN P (pickN v62 (.bool true) v68) w fun v69_1 w =>
  J5 v69_1 w) fun v69 w =>
  joinK (fun J6 : Value → World → Prop => gdK (yb v69) false (fun k => kV P (Instr.fieldAt 52 v7 1) w k) w fun v71 w =>
  gdK (yb v69) false (fun k => kV P (Instr.loadAt 22 v71) w k) w fun v72 w =>
  gdK (yb v69) false (fun k => kV P (Instr.fieldAt 73 v9 1) w k) w fun v73 w =>
  gdK (yb v69) false (fun k => kV P (Instr.loadAt 22 v73) w k) w fun v74 w =>
  gdK (yb v69) false (fun k => kV P (binV .neq 22 (.tmp 72) (.tmp 74) v72 v74) w k) w fun v75 w =>
  kN P (pickN v69 (.bool true) v75) w fun v76_1 w =>
  J6 v76_1 w) fun v76 w =>
  joinK (fun J7 : Value → World → Prop => gdK (yb v76) false (fun k => kV P (Instr.fieldAt 52 v7 2) w k) w fun v78 w =>
  gdK (yb v76) false (fun k => kV P (Instr.fieldAt 50 v78 1) w k) w fun v79 w =>
  gdK (yb v76) false (fun k => kV P (Instr.loadAt 22 v79) w k) w fun v80 w =>
  gdK (yb v76) false (fun k => kV P (Instr.fieldAt 73 v9 2) w k) w fun v81 w =>
  gdK (yb v76) false (fun k => kV P (Instr.loadAt 22 v81) w k) w fun v82 w =>
  gdK (yb v76) false (fun k => kV P (binV .neq 22 (.tmp 80) (.tmp 82) v80 v82) w k) w fun v83 w =>
  kN P (pickN v76 (.bool true) v83) w fun v84_1 w =>
  J7 v84_1 w) fun v84 w =>
  condK v84
  (K (.bool false) w)
  (J3 [(s0.getD 0 undef)] w))
  (kV P (binV .eql 3 (.tmp 26) (.const (.int .i64 2)) v26 (.int .i64 2)) w fun v86 w =>
  condK v86
  (kV P (Instr.fieldAt 61 v6 2) w fun v87 w =>
  kV P (Instr.loadAt 22 v87) w fun v88 w =>
  kV P (Instr.fieldAt 61 v6 3) w fun v89 w =>
  kV P (Instr.loadAt 22 v89) w fun v90 w =>
  kN P (callN (.func (.func 27) #[] #[]) #[v3, v88, v90]) w fun v91 w =>
  kV P (Instr.fieldAt 61 v6 2) w fun v93 w =>
  kV P (Instr.loadAt 22 v93) w fun v94 w =>
  kV P (Instr.fieldAt 61 v6 3) w fun v95 w =>
  kV P (Instr.loadAt 22 v95) w fun v96 w =>
  kN P (callN (.func (.func 28) #[] #[]) #[(s0.getD 0 undef), v94, v96]) w fun v97 w =>
  J3 [v97] w)
  (kV P (binV .eql 3 (.tmp 26) (.const (.int .i64 3)) v26 (.int .i64 3)) w fun v99 w =>
  condK v99
  (kV P (Instr.fieldAt 61 v6 2) w fun v100 w =>
  kV P (Instr.loadAt 22 v100) w fun v101 w =>
  kN P (callN (.func (.func 29) #[] #[]) #[v3, v101]) w fun v102 w =>
  kV P (Instr.fieldAt 61 v6 2) w fun v104 w =>
  kV P (Instr.loadAt 22 v104) w fun v105 w =>
  kN P (callN (.func (.func 30) #[] #[]) #[(s0.getD 0 undef), v105]) w fun v106 w =>
  J3 [v106] w)
  (kV P (binV .eql 3 (.tmp 26) (.const (.int .i64 4)) v26 (.int .i64 4)) w fun v108 w =>
  condK v108
  (kN P (callN (.func (.func 31) #[] #[]) #[v3]) w fun v109 w =>
  J3 [(.slice none 0 0)] w)
  (kV P (binV .eql 3 (.tmp 26) (.const (.int .i64 5)) v26 (.int .i64 5)) w fun v111 w =>
  condK v111
  (kV P (Instr.fieldAt 61 v6 1) w fun v112 w =>
  kV P (Instr.loadAt 3 v112) w fun v113 w =>
  kN P (callN (.func (.func 32) #[] #[]) #[v3, v113]) w fun v114 w =>
  kV P (Instr.fieldAt 61 v6 1) w fun v116 w =>
  kV P (Instr.loadAt 3 v116) w fun v117 w =>
  kN P (callN (.func (.func 33) #[] #[]) #[(s0.getD 0 undef), v117]) w fun v118 w =>
  J3 [v118] w)
  (J3 [(s0.getD 0 undef)] w))))))) fun s3 w => ∀ _ : Nat → Value,
  kN P (callN (.func (.func 22) #[] #[]) #[v3]) w fun v119 w =>
  kN P (callN (.func (.func 34) #[] #[]) #[v119, (s3.getD 0 undef)]) w fun v121 w =>
  kV P (Op.unary .not v121) w fun v122 w =>
  condK v122
  (K (.bool false) w)
  (kV P (binV .add 3 (.tmp 19) (.const (.int .i64 1)) (s0.getD 1 undef) (.int .i64 1)) w fun v20 w =>
  R0 [(s3.getD 0 undef), v20] w))
  (kN P (callN (.func (.func 24) #[] #[]) #[]) w fun v123 w =>
  K v123 w)) [(.slice none 0 0), (.int .i64 0)] w
theorem F6_eq (P : Program) (t0 : Value) (w : World) (K : Value → World → Prop) : funE P ⟨[], [(4, [4, 5])], [(28, [4])]⟩ Try.f6 [t0] w K = F6 P t0 w K := by kernel_rfl
theorem F6_ok (t0 : Value) (w : World) (K : Value → World → Prop) (h : F6 Try.prog t0 w K) : callsK Try.prog 6 #[t0] w K := calls_of_eq mixedT Try.func6 (F6_eq _ t0 w K) h

/-- mintmark/mintmarklaw11.TlbLast -/
def F7 (P : Program) (t0 : Value) (w : World) (K : Value → World → Prop) : Prop :=
  kV P (Instr.alloc 58 true (.tuple #[])) w fun v3 w =>
  kV P (Instr.makeMap 84 none) w fun v19 w =>
  loopT (fun R0 s0 w => ∀ _ : Nat → Value,
  kV P (Builtin.len_ #[46] 3 #[t0]) w fun v22 w =>
  kV P (binV .lss 3 (.tmp 20) (.tmp 22) (s0.getD 0 undef) v22) w fun v23 w =>
  joinK (fun J2 : Value → World → Prop => gdK (yb v23) true (fun k => k (s0.getD 0 undef) w) w fun v25 w =>
  gdK (yb v23) true (fun k => kV P (binV .lss 3 (.tmp 25) (.const (.int .i64 100)) v25 (.int .i64 100)) w k) w fun v26 w =>
  kN P (pickN v23 v26 (.bool false)) w fun v27_1 w =>
  J2 v27_1 w) fun v27 w =>
  condK v27
  (kV P (Instr.indexAt 46 t0 (s0.getD 0 undef)) w fun v32 w =>
  kV P (Instr.loadAt 61 v32) w fun v33 w =>
  kV P (Instr.alloc 61 true (.tuple #[])) w fun v6 w =>
  kU P (Instr.storeAt 61 v6 v33) w fun _ w =>
  joinL (fun J3 =>
  kV P (Instr.fieldAt 61 v6 0) w fun v34 w =>
  kV P (Instr.loadAt 3 v34) w fun v35 w =>
  kV P (binV .eql 3 (.tmp 35) (.const (.int .i64 0)) v35 (.int .i64 0)) w fun v37 w =>
  condK v37
  (kV P (Instr.loadAt 61 v6) w fun v38 w =>
  kN P (callN (.func (.func 21) #[] #[]) #[v38]) w fun v39 w =>
  kN P (callN (.func (.func 20) #[] #[]) #[v3, v39]) w fun v40 w =>
  kV P (Instr.fieldAt 61 v6 2) w fun v42 w =>
  kV P (Instr.loadAt 22 v42) w fun v43 w =>
  kV P (Instr.fieldAt 61 v6 3) w fun v44 w =>
  kV P (Instr.loadAt 22 v44) w fun v45 w =>
  kV P (Instr.build 86 #[(0, v43), (1, v45)]) w fun v46 w =>
  kV P (Instr.fieldAt 61 v6 4) w fun v47 w =>
  kV P (Instr.loadAt 22 v47) w fun v48 w =>
  kU P (Instr.mapUpdate 84 v19 v46 v48) w fun _ w =>
  kV P (Instr.fieldAt 61 v6 2) w fun v50 w =>
  kV P (Instr.loadAt 22 v50) w fun v51 w =>
  kV P (Instr.fieldAt 61 v6 3) w fun v52 w =>
  kV P (Instr.loadAt 22 v52) w fun v53 w =>
  kN P (callN (.func (.func 23) #[] #[]) #[v3, v51, v53]) w fun v54 w =>
  kV P (Instr.extract v54 0) w fun v55 w =>
  kV P (Instr.extract v54 1) w fun v56 w =>
  kV P (Instr.alloc 52 true (.tuple #[])) w fun v7 w =>
  kU P (Instr.storeAt 52 v7 v55) w fun _ w =>
  kV P (Op.unary .not v56) w fun v58 w =>
  condK v58
  (K (.bool false) w)
  (J3 [] w))
  (kV P (binV .eql 3 (.tmp 35) (.const (.int .i64 2)) v35 (.int .i64 2)) w fun v60 w =>
  condK v60
  (kV P (Instr.fieldAt 61 v6 2) w fun v61 w =>
  kV P (Instr.loadAt 22 v61) w fun v62 w =>
  kV P (Instr.fieldAt 61 v6 3) w fun v63 w =>
  kV P (Instr.loadAt 22 v63) w fun v64 w =>
  kN P (callN (.func (.func 27) #[] #[]) #[v3, v62, v64]) w fun v65 w =>
  kV P (Instr.fieldAt 61 v6 2) w fun v67 w =>
  kV P (Instr.loadAt 22 v67) w fun v68 w =>
  kV P (Instr.fieldAt 61 v6 3) w fun v69 w =>
  kV P (Instr.loadAt 22 v69) w fun v70 w =>
  kV P (Instr.build 86 #[(0, v68), (1, v70)]) w fun v71 w =>
  kV P (Builtin.delete_ #[84, 86] 0 #[v19, v71]) w fun _ w =>
  J3 [] w)
  (kV P (binV .eql 3 (.tmp 35) (.const (.int .i64 3)) v35 (.int .i64 3)) w fun v73 w =>
  condK v73
  (kV P (Instr.fieldAt 61 v6 2) w fun v74 w =>
  kV P (Instr.loadAt 22 v74) w fun v75 w =>
  kN P (callN (.func (.func 29) #[] #[]) #[v3, v75]) w fun v76 w =>
  loopT (fun R11 s11 w => ∀ _ : Nat → Value,
  kV P (binV .leq 3 (.tmp 77) (.tmp 78) (s11.getD 0 undef) (s0.getD 0 undef)) w fun v79 w =>
  condK v79
  (joinL (fun J13 =>
  drewK (fun w =>
  sV P (Instr.indexAt 46 t0 (s11.getD 0 undef)) w fun v84 =>
  sV P (Instr.fieldAt 61 v84 2) w fun v85 =>
  sV P (Instr.loadAt 22 v85) w fun v86 =>
  sV P (Instr.fieldAt 61 v6 2) w fun v87 =>
  sV P (Instr.loadAt 22 v87) w fun v88 =>
  sV P (binV .eql 22 (.tmp 86) (.tmp 88) v86 v88) w fun v89 =>
  condK v89
  (drewK (fun w =>
  sV P (Instr.fieldAt 61 v6 2) w fun v91 =>
  sV P (Instr.loadAt 22 v91) w fun v92 =>
  sV P (Instr.indexAt 46 t0 (s11.getD 0 undef)) w fun v95 =>
  sV P (Instr.fieldAt 61 v95 3) w fun v96 =>
  sV P (Instr.loadAt 22 v96) w fun v97 =>
  sV P (Instr.build 86 #[(0, v92), (1, v97)]) w fun v98 =>
  kV P (Builtin.delete_ #[84, 86] 0 #[v19, v98]) w fun _ w =>
  J13 [] w) w)
  (J13 [] w)) w) fun s13 w => ∀ _ : Nat → Value,
  kV P (binV .add 3 (.tmp 80) (.const (.int .i64 1)) (s11.getD 0 undef) (.int .i64 1)) w fun v81 w =>
  R11 [v81] w)
  (J3 [] w)) [(.int .i64 0)] w)
  (kV P (binV .eql 3 (.tmp 35) (.const (.int .i64 5)) v35 (.int .i64 5)) w fun v100 w =>
  condK v100
  (kV P (Instr.fieldAt 61 v6 1) w fun v101 w =>
  kV P (Instr.loadAt 3 v101) w fun v102 w =>
  kN P (callN (.func (.func 32) #[] #[]) #[v3, v102]) w fun v103 w =>
  J3 [] w)
  (J3 [] w))))) fun s3 w => ∀ _ : Nat → Value,
  kN P (callN (.func (.func 22) #[] #[]) #[v3]) w fun v104 w =>
  kV P (Builtin.len_ #[64] 3 #[v104]) w fun v106 w =>
  kV P (binV .gtr 3 (.tmp 106) (.const (.int .i64 8)) v106 (.int .i64 8)) w fun v107 w =>
  condK v107
  (K (.bool false) w)
  (kV P (Instr.makeMap 87 none) w fun v108 w =>
  loopT (fun R5 s5 w => ∀ _ : Nat → Value,
  kV P (Builtin.len_ #[64] 3 #[v104]) w fun v111 w =>
  kV P (binV .lss 3 (.tmp 109) (.tmp 111) (s5.getD 0 undef) v111) w fun v112 w =>
  condK v112
  (joinL (fun J7 =>
  drewK (fun w =>
  pV P (Instr.indexAt 64 v104 (s5.getD 0 undef)) fun v117 =>
  pV P (Instr.fieldAt 52 v117 0) fun v118 =>
  pV P (Instr.indexAt 64 v104 (s5.getD 0 undef)) fun v122 =>
  pV P (Instr.fieldAt 52 v122 1) fun v123 =>
  (kV P (Instr.loadAt 22 v118) w fun v119 w =>
  (kV P (Instr.loadAt 22 v123) w fun v124 w =>
  pV P (Instr.build 86 #[(0, v119), (1, v124)]) fun v125 =>
  kV P (Instr.alloc 86 true (.tuple #[])) w fun v13 w =>
  kU P (Instr.storeAt 86 v13 v125) w fun _ w =>
  J7 [v13] w) ∧
  (kV P (Instr.alloc 86 true (.tuple #[])) w fun v13_1 w =>
  kV P (Instr.loadAt 22 v123) w fun v124_1 w =>
  pV P (Instr.build 86 #[(0, v119), (1, v124_1)]) fun v125_1 =>
  kU P (Instr.storeAt 86 v13_1 v125_1) w fun _ w =>
  J7 [v13_1] w)) ∧
  (kV P (Instr.loadAt 22 v123) w fun v124_2 w =>
  (kV P (Instr.loadAt 22 v118) w fun v119_1 w =>
  pV P (Instr.build 86 #[(0, v119_1), (1, v124_2)]) fun v125_2 =>
  kV P (Instr.alloc 86 true (.tuple #[])) w fun v13_2 w =>
  kU P (Instr.storeAt 86 v13_2 v125_2) w fun _ w =>
  J7 [v13_2] w) ∧
  (kV P (Instr.alloc 86 true (.tuple #[])) w fun v13_3 w =>
  kV P (Instr.loadAt 22 v118) w fun v119_2 w =>
  pV P (Instr.build 86 #[(0, v119_2), (1, v124_2)]) fun v125_3 =>
  kU P (Instr.storeAt 86 v13_3 v125_3) w fun _ w =>
  J7 [v13_3] w)) ∧
  (kV P (Instr.alloc 86 true (.tuple #[])) w fun v13_4 w =>
  (kV P (Instr.loadAt 22 v118) w fun v119_3 w =>
  kV P (Instr.loadAt 22 v123) w fun v124_3 w =>
  pV P (Instr.build 86 #[(0, v119_3), (1, v124_3)]) fun v125_4 =>
  kU P (Instr.storeAt 86 v13_4 v125_4) w fun _ w =>
  J7 [v13_4] w) ∧
  (kV P (Instr.loadAt 22 v123) w fun v124_4 w =>
  kV P (Instr.loadAt 22 v118) w fun v119_4 w =>
  pV P (Instr.build 86 #[(0, v119_4), (1, v124_4)]) fun v125_5 =>
  kU P (Instr.storeAt 86 v13_4 v125_5) w fun _ w =>
  J7 [v13_4] w))) w) fun s7 w => ∀ _ : Nat → Value,
  kV P (Instr.loadAt 86 (s7.getD 0 undef)) w fun v128 w =>
  kV P (Instr.lookup 84 v19 v128 true) w fun v129 w =>
  kV P (Instr.extract v129 0) w fun v130 w =>
  kV P (Instr.extract v129 1) w fun v131 w =>
  kV P (Instr.loadAt 86 (s7.getD 0 undef)) w fun v133 w =>
  kV P (Instr.lookup 87 v108 v133 false) w fun v134 w =>
  joinK (fun J9 : Value → World → Prop => gdK (yb v134) false (fun k => k v131 w) w fun v136 w =>
  gdK (yb v134) false (fun k => kV P (Op.unary .not v136) w k) w fun v137 w =>
  kN P (pickN v134 (.bool true) v137) w fun v138_1 w =>
  J9 v138_1 w) fun v138 w =>
  joinK (fun J10 : Value → World → Prop => gdK (yb v138) false (fun k => k v130 w) w fun v140 w =>
  gdK (yb v138) false (fun k => k v104 w) w fun v141 w =>
  gdK (yb v138) false (fun k => k (s5.getD 0 undef) w) w fun v142 w =>
  gdK (yb v138) false (fun k => kV P (Instr.indexAt 64 v141 v142) w k) w fun v143 w =>
  gdK (yb v138) false (fun k => kV P (Instr.fieldAt 52 v143 2) w k) w fun v144 w =>
  gdK (yb v138) false (fun k => kV P (Instr.fieldAt 50 v144 1) w k) w fun v145 w =>
  gdK (yb v138) false (fun k => kV P (Instr.loadAt 22 v145) w k) w fun v146 w =>
  gdK (yb v138) false (fun k => kV P (binV .neq 22 (.tmp 140) (.tmp 146) v140 v146) w k) w fun v147 w =>
  kN P (pickN v138 (.bool true) v147) w fun v148_1 w =>
  J10 v148_1 w) fun v148 w =>
  condK v148
  (K (.bool false) w)
  (kV P (Instr.loadAt 86 (s7.getD 0 undef)) w fun v150 w =>
  kU P (Instr.mapUpdate 87 v108 v150 (.bool true)) w fun _ w =>
  kV P (binV .add 3 (.tmp 113) (.const (.int .i64 1)) (s5.getD 0 undef) (.int .i64 1)) w fun v114 w =>
  R5 [v114] w))
  (kV P (binV .add 3 (.tmp 28) (.const (.int .i64 1)) (s0.getD 0 undef) (.int .i64 1)) w fun v29 w =>
  R0 [v29] w)) [(.int .i64 0)] w))
  (kV P (Instr.build 52 #[]) w fun v152 w =>
  kN P (callN (.func (.func 20) #[] #[]) #[(.pointer none), v152]) w fun v153 w =>
  kN P (callN (.func (.func 31) #[] #[]) #[(.pointer none)]) w fun v155 w =>
  kN P (callN (.func (.func 23) #[] #[]) #[(.pointer none), (.int .u64 0), (.int .u64 0)]) w fun v158 w =>
  kV P (Instr.extract v158 0) w fun v159 w =>
  kV P (Instr.extract v158 1) w fun v160 w =>
  kV P (Instr.alloc 52 true (.tuple #[])) w fun v17 w =>
  kU P (Instr.storeAt 52 v17 v159) w fun _ w =>
  kN P (callN (.func (.func 24) #[] #[]) #[]) w fun v161 w =>
  joinK (fun J15 : Value → World → Prop => gdK (yb v161) true (fun k => k v160 w) w fun v163 w =>
  gdK (yb v161) true (fun k => kV P (Op.unary .not v163) w k) w fun v164 w =>
  kN P (pickN v161 v164 (.bool false)) w fun v165_1 w =>
  J15 v165_1 w) fun v165 w =>
  joinK (fun J16 : Value → World → Prop => gdK (yb v165) true (fun k => k (.pointer none) w) w fun v167 w =>
  gdK (yb v165) true (fun k => kN P (callN (.func (.func 22) #[] #[]) #[v167]) w k) w fun v168 w =>
  gdK (yb v165) true (fun k => kV P (Builtin.len_ #[64] 3 #[v168]) w k) w fun v169 w =>
  gdK (yb v165) true (fun k => kV P (binV .eql 3 (.tmp 169) (.const (.int .i64 0)) v169 (.int .i64 0)) w k) w fun v170 w =>
  kN P (pickN v165 v170 (.bool false)) w fun v171_1 w =>
  J16 v171_1 w) fun v171 w =>
  K v171 w)) [(.int .i64 0)] w
theorem F7_eq (P : Program) (t0 : Value) (w : World) (K : Value → World → Prop) : funE P ⟨[(23, 9), (33, 999)], [(4, [5]), (20, [9]), (31, [12])], [(26, []), (21, []), (34, [13])]⟩ Try.f7 [t0] w K = F7 P t0 w K := by kernel_rfl
theorem F7_ok (t0 : Value) (w : World) (K : Value → World → Prop) (h : F7 Try.prog t0 w K) : callsK Try.prog 7 #[t0] w K := calls_of_eq mixedT Try.func7 (F7_eq _ t0 w K) h

/-- (*mintmark/tlb.Tlb).Put -/
def F20 (P : Program) (t0 t1 : Value) (w : World) (K : Value → World → Prop) : Prop :=
  kV P (Instr.box 52 t1) w fun v3 w =>
  kV P (binV .eql 89 (.tmp 5) (.const (.pointer none)) t0 (.pointer none)) w fun v6 w =>
  condK v6
  (K (.tuple #[]) w)
  (kV P (Instr.fieldAt 52 v3 1) w fun v8 w =>
  kV P (Instr.loadAt 22 v8) w fun v9 w =>
  kN P (callN (.func (.func 53) #[] #[]) #[t0, v9]) w fun v10 w =>
  kV P (Instr.fieldAt 52 v3 0) w fun v12 w =>
  kV P (Instr.loadAt 22 v12) w fun v13 w =>
  kV P (Instr.fieldAt 52 v3 1) w fun v14 w =>
  kV P (Instr.loadAt 22 v14) w fun v15 w =>
  kN P (callN (.func (.func 55) #[] #[]) #[v13, v15]) w fun v16 w =>
  kN P (callN (.func (.func 54) #[] #[]) #[v10, v16]) w fun v17 w =>
  joinL (fun J0 =>
  kN P (nilN v10) w fun v19 w =>
  kV P (Instr.fieldAt 55 v19 1) w fun v20 w =>
  kV P (Instr.loadAt 3 v20) w fun v21 w =>
  kV P (binV .eql 3 (.tmp 21) (.const (.int .i64 2)) v21 (.int .i64 2)) w fun v22 w =>
  condK v22
  (kN P (callN (.func (.func 56) #[] #[]) #[v10, (.int .i64 0)]) w fun v24 w =>
  J0 [] w)
  (J0 [] w)) fun s0 w => ∀ _ : Nat → Value,
  drewK (fun w =>
  sN P (nilN v10) w fun v27 =>
  sV P (Instr.fieldAt 55 v27 1) w fun v28 =>
  sV P (Instr.loadAt 3 v28) w fun v29 =>
  sV P (Instr.loadAt 52 v3) w fun v30 =>
  sN P (nilN v10) w fun v31 =>
  sV P (Instr.fieldAt 55 v31 0) w fun v32 =>
  kV P (Instr.indexAt 53 v32 v29) w fun v33 w =>
  kU P (Instr.storeAt 52 v33 v30) w fun _ w =>
  kN P (nilN v10) w fun v35 w =>
  kV P (Instr.fieldAt 55 v35 1) w fun v36 w =>
  kV P (Instr.loadAt 3 v36) w fun v37 w =>
  kV P (binV .add 3 (.tmp 37) (.const (.int .i64 1)) v37 (.int .i64 1)) w fun v38 w =>
  kN P (nilN v10) w fun v39 w =>
  kV P (Instr.fieldAt 55 v39 1) w fun v40 w =>
  kU P (Instr.storeAt 3 v40 v38) w fun _ w =>
  K (.tuple #[]) w) w)
theorem F20_eq (P : Program) (t0 t1 : Value) (w : World) (K : Value → World → Prop) : funE P ⟨[(6, 8)], [], [(6, [])]⟩ Try.f20 [t0, t1] w K = F20 P t0 t1 w K := by kernel_rfl
theorem F20_ok (t0 t1 : Value) (w : World) (K : Value → World → Prop) (h : F20 Try.prog t0 t1 w K) : callsK Try.prog 20 #[t0, t1] w K := calls_of_eq mixedT Try.func20 (F20_eq _ t0 t1 w K) h

/-- mintmark/mintmarklaw11.line -/
def F21 (P : Program) (t0 : Value) (w : World) (K : Value → World → Prop) : Prop :=
  kV P (Instr.box 61 t0) w fun v1 w =>
  kV P (Instr.alloc 52 true (.tuple #[])) w fun v2 w =>
  kV P (Instr.fieldAt 61 v1 2) w fun v3 w =>
  kV P (Instr.loadAt 22 v3) w fun v4 w =>
  kV P (Instr.fieldAt 61 v1 3) w fun v5 w =>
  kV P (Instr.loadAt 22 v5) w fun v6 w =>
  kV P (Instr.fieldAt 61 v1 4) w fun v7 w =>
  kV P (Instr.loadAt 22 v7) w fun v8 w =>
  kV P (Instr.build 50 #[(1, v8)]) w fun v9 w =>
  kV P (Instr.build 52 #[(0, v4), (1, v6), (2, v9)]) w fun v10 w =>
  kU P (Instr.storeAt 52 v2 v10) w fun _ w =>
  retV P 52 v2 w fun r0 =>
  K r0 w
theorem F21_eq (P : Program) (t0 : Value) (w : World) (K : Value → World → Prop) : funE P ⟨[], [], []⟩ Try.f21 [t0] w K = F21 P t0 w K := by kernel_rfl
theorem F21_ok (t0 : Value) (w : World) (K : Value → World → Prop) (h : F21 Try.prog t0 w K) : callsK Try.prog 21 #[t0] w K := calls_of_eq mixedT Try.func21 (F21_eq _ t0 w K) h

/-- (*mintmark/tlb.Tlb).Lines -/
def F22 (P : Program) (t0 : Value) (w : World) (K : Value → World → Prop) : Prop :=
  kV P (binV .eql 89 (.tmp 6) (.const (.pointer none)) t0 (.pointer none)) w fun v7 w =>
  condK v7
  (K (.slice none 0 0) w)
  (loopT (fun R0 s0 w => ∀ _ : Nat → Value,
  kV P (binV .lss 3 (.tmp 8) (.const (.int .i64 4)) (s0.getD 1 undef) (.int .i64 4)) w fun v9 w =>
  condK v9
  (kN P (nilN t0) w fun v13 w =>
  kV P (Instr.fieldAt 58 v13 0) w fun v14 w =>
  kV P (Instr.indexAt 56 v14 (s0.getD 1 undef)) w fun v15 w =>
  drewK (fun w =>
  sN P (nilN v15) w fun v18 =>
  sV P (Instr.fieldAt 55 v18 0) w fun v19 =>
  sN P (nilN v15) w fun v21 =>
  sV P (Instr.fieldAt 55 v21 1) w fun v22 =>
  sV P (Instr.loadAt 3 v22) w fun v23 =>
  sN P (nilN v15) w fun v25 =>
  sV P (Instr.fieldAt 55 v25 1) w fun v26 =>
  sV P (Instr.loadAt 3 v26) w fun v27 =>
  sV P (Instr.sliceAt 53 v19 none (some v23) (some v27)) w fun v28 =>
  kV P (Builtin.append_ #[64, 64] 64 #[(s0.getD 0 undef), v28]) w fun v29 w =>
  kV P (binV .add 3 (.tmp 8) (.const (.int .i64 1)) (s0.getD 1 undef) (.int .i64 1)) w fun v30 w =>
  R0 [v29, v30] w) w)
  (K (s0.getD 0 undef) w)) [(.slice none 0 0), (.int .i64 0)] w)
theorem F22_eq (P : Program) (t0 : Value) (w : World) (K : Value → World → Prop) : funE P ⟨[(8, 13)], [(5, [3, 8])], []⟩ Try.f22 [t0] w K = F22 P t0 w K := by kernel_rfl
theorem F22_ok (t0 : Value) (w : World) (K : Value → World → Prop) (h : F22 Try.prog t0 w K) : callsK Try.prog 22 #[t0] w K := calls_of_eq mixedT Try.func22 (F22_eq _ t0 w K) h

/-- (*mintmark/tlb.Tlb).Look -/
def F23 (P : Program) (t0 t1 t2 : Value) (w : World) (K : Value → World → Prop) : Prop :=
  kV P (Instr.alloc 52 true (.tuple #[])) w fun v6 w =>
  kV P (binV .eql 89 (.tmp 12) (.const (.pointer none)) t0 (.pointer none)) w fun v13 w =>
  condK v13
  (kV P (Instr.build 52 #[]) w fun v14 w =>
  kU P (Instr.storeAt 52 v6 v14) w fun _ w =>
  retV P 52 v6 w fun r0 =>
  K (.tuple #[r0, (.bool false)]) w)
  (kN P (callN (.func (.func 53) #[] #[]) #[t0, t2]) w fun v17 w =>
  kN P (callN (.func (.func 55) #[] #[]) #[t1, t2]) w fun v20 w =>
  drewK (fun w =>
  sN P (nilN v17) w fun v22 =>
  sV P (Instr.fieldAt 55 v22 0) w fun v23 =>
  sN P (nilN v17) w fun v25 =>
  sV P (Instr.fieldAt 55 v25 1) w fun v26 =>
  sV P (Instr.loadAt 3 v26) w fun v27 =>
  sN P (nilN v17) w fun v29 =>
  sV P (Instr.fieldAt 55 v29 1) w fun v30 =>
  sV P (Instr.loadAt 3 v30) w fun v31 =>
  sV P (Instr.sliceAt 53 v23 none (some v27) (some v31)) w fun v32 =>
  sV P (Builtin.len_ #[64] 3 #[v32]) w fun v33 =>
  loopT (fun R1 s1 w => ∀ _ : Nat → Value,
  kV P (binV .lss 3 (.tmp 34) (.tmp 33) (s1.getD 0 undef) v33) w fun v35 w =>
  condK v35
  (kV P (Instr.indexAt 64 v32 (s1.getD 0 undef)) w fun v36 w =>
  kV P (Instr.loadAt 52 v36) w fun v37 w =>
  kV P (Instr.alloc 52 true (.tuple #[])) w fun v11 w =>
  kU P (Instr.storeAt 52 v11 v37) w fun _ w =>
  kV P (Instr.loadAt 52 v11) w fun v39 w =>
  kN P (callN v20 #[v39]) w fun v40 w =>
  condK v40
  (kV P (Instr.loadAt 52 v11) w fun v41 w =>
  kU P (Instr.storeAt 52 v6 v41) w fun _ w =>
  retV P 52 v6 w fun r3 =>
  K (.tuple #[r3, (.bool true)]) w)
  (kV P (binV .add 3 (.tmp 34) (.const (.int .i64 1)) (s1.getD 0 undef) (.int .i64 1)) w fun v42 w =>
  R1 [v42] w))
  (kV P (Instr.build 52 #[]) w fun v43 w =>
  kU P (Instr.storeAt 52 v6 v43) w fun _ w =>
  retV P 52 v6 w fun r4 =>
  K (.tuple #[r4, (.bool false)]) w)) [(.int .i64 0)] w) w)
theorem F23_eq (P : Program) (t0 t1 t2 : Value) (w : World) (K : Value → World → Prop) : funE P ⟨[], [(6, [34])], []⟩ Try.f23 [t0, t1, t2] w K = F23 P t0 t1 t2 w K := by kernel_rfl
theorem F23_ok (t0 t1 t2 : Value) (w : World) (K : Value → World → Prop) (h : F23 Try.prog t0 t1 t2 w K) : callsK Try.prog 23 #[t0, t1, t2] w K := calls_of_eq mixedT Try.func23 (F23_eq _ t0 t1 t2 w K) h

/-- mintmark/mintmarklaw11.one -/
def F24 (P : Program) (w : World) (K : Value → World → Prop) : Prop :=
  kV P (Instr.alloc 58 true (.tuple #[])) w fun v1 w =>
  loopT (fun R0 s0 w => ∀ _ : Nat → Value,
  kV P (binV .lss 22 (.tmp 7) (.const (.int .u64 3)) (s0.getD 0 undef) (.int .u64 3)) w fun v8 w =>
  condK v8
  (kV P (binV .mul 22 (.const (.int .u64 4)) (.tmp 11) (.int .u64 4) (s0.getD 0 undef)) w fun v12 w =>
  kV P (Instr.build 52 #[(0, (.int .u64 1)), (1, v12)]) w fun v13 w =>
  kN P (callN (.func (.func 20) #[] #[]) #[v1, v13]) w fun v14 w =>
  kV P (binV .add 22 (.tmp 9) (.const (.int .u64 1)) (s0.getD 0 undef) (.int .u64 1)) w fun v10 w =>
  R0 [v10] w)
  (kN P (callN (.func (.func 23) #[] #[]) #[v1, (.int .u64 1), (.int .u64 0)]) w fun v16 w =>
  kV P (Instr.extract v16 0) w fun v17 w =>
  kV P (Instr.extract v16 1) w fun v18 w =>
  kV P (Instr.alloc 52 true (.tuple #[])) w fun v3 w =>
  kU P (Instr.storeAt 52 v3 v17) w fun _ w =>
  kN P (callN (.func (.func 23) #[] #[]) #[v1, (.int .u64 1), (.int .u64 8)]) w fun v20 w =>
  kV P (Instr.extract v20 0) w fun v21 w =>
  kV P (Instr.extract v20 1) w fun v22 w =>
  kV P (Instr.alloc 52 true (.tuple #[])) w fun v5 w =>
  kU P (Instr.storeAt 52 v5 v21) w fun _ w =>
  kV P (Op.unary .not v18) w fun v24 w =>
  joinK (fun J2 : Value → World → Prop => gdK (yb v24) true (fun k => k v22 w) w fun v26 w =>
  kN P (pickN v24 v26 (.bool false)) w fun v27_1 w =>
  J2 v27_1 w) fun v27 w =>
  K v27 w)) [(.int .u64 0)] w
theorem F24_eq (P : Program) (w : World) (K : Value → World → Prop) : funE P ⟨[], [(3, [2])], []⟩ Try.f24 [] w K = F24 P  w K := by kernel_rfl
theorem F24_ok (w : World) (K : Value → World → Prop) (h : F24 Try.prog  w K) : callsK Try.prog 24 #[] w K := calls_of_eq mixedT Try.func24 (F24_eq _  w K) h

/-- (mintmark/mintmarkref11.Tlb).Put -/
def F25 (P : Program) (t0 t1 : Value) (w : World) (K : Value → World → Prop) : Prop :=
  kV P (Instr.box 73 t1) w fun v3 w =>
  kV P (Instr.fieldAt 73 v3 0) w fun v11 w =>
  kV P (Instr.loadAt 22 v11) w fun v12 w =>
  kV P (Instr.fieldAt 73 v3 1) w fun v13 w =>
  kV P (Instr.loadAt 22 v13) w fun v14 w =>
  kN P (callN (.func (.func 28) #[] #[]) #[t0, v12, v14]) w fun v15 w =>
  loopT (fun R0 s0 w => ∀ _ : Nat → Value,
  kV P (Builtin.len_ #[70] 3 #[v15]) w fun v18 w =>
  kV P (binV .lss 3 (.tmp 16) (.tmp 18) (s0.getD 3 undef) v18) w fun v19 w =>
  condK v19
  (joinL (fun J2 =>
  joinL (fun J4 =>
  drewK (fun w =>
  sV P (Instr.indexAt 70 v15 (s0.getD 3 undef)) w fun v24 =>
  sV P (Instr.fieldAt 73 v24 1) w fun v25 =>
  sV P (Instr.loadAt 22 v25) w fun v26 =>
  sV P (binV .rem 22 (.tmp 26) (.const (.int .u64 4)) v26 (.int .u64 4)) w fun v27 =>
  sV P (Instr.fieldAt 73 v3 1) w fun v28 =>
  sV P (Instr.loadAt 22 v28) w fun v29 =>
  sV P (binV .rem 22 (.tmp 29) (.const (.int .u64 4)) v29 (.int .u64 4)) w fun v30 =>
  sV P (binV .leq 22 (.tmp 27) (.tmp 30) v27 v30) w fun v31 =>
  condK v31
  (kV P (binV .add 3 (.tmp 32) (.const (.int .i64 1)) (s0.getD 3 undef) (.int .i64 1)) w fun v33 w =>
  J4 [v33] w)
  (J4 [(s0.getD 0 undef)] w)) w) fun s4 w => ∀ _ : Nat → Value,
  drewK (fun w =>
  sV P (Instr.indexAt 70 v15 (s0.getD 3 undef)) w fun v36 =>
  sV P (Instr.fieldAt 73 v36 1) w fun v37 =>
  sV P (Instr.loadAt 22 v37) w fun v38 =>
  sV P (binV .rem 22 (.tmp 38) (.const (.int .u64 4)) v38 (.int .u64 4)) w fun v39 =>
  sV P (Instr.fieldAt 73 v3 1) w fun v40 =>
  sV P (Instr.loadAt 22 v40) w fun v41 =>
  sV P (binV .rem 22 (.tmp 41) (.const (.int .u64 4)) v41 (.int .u64 4)) w fun v42 =>
  sV P (binV .eql 22 (.tmp 39) (.tmp 42) v39 v42) w fun v43 =>
  condK v43
  (kV P (binV .add 3 (.tmp 44) (.const (.int .i64 1)) (s0.getD 1 undef) (.int .i64 1)) w fun v45 w =>
  kV P (binV .lss 3 (.tmp 46) (.const (.int .i64 0)) (s0.getD 2 undef) (.int .i64 0)) w fun v47 w =>
  condK v47
  (J2 [(s4.getD 0 undef), v45, (s0.getD 3 undef)] w)
  (J2 [(s4.getD 0 undef), v45, (s0.getD 2 undef)] w))
  (J2 [(s4.getD 0 undef), (s0.getD 1 undef), (s0.getD 2 undef)] w)) w) fun s2 w => ∀ _ : Nat → Value,
  kV P (binV .add 3 (.tmp 20) (.const (.int .i64 1)) (s0.getD 3 undef) (.int .i64 1)) w fun v21 w =>
  R0 [(s2.getD 0 undef), (s2.getD 1 undef), (s2.getD 2 undef), v21] w)
  (joinL (fun J6 =>
  drewK (fun w =>
  pV P (Instr.sliceAt 70 v15 none (some (s0.getD 0 undef)) none) fun v52 =>
  pV P (Instr.sliceAt 70 v15 (some (s0.getD 0 undef)) none none) fun v59 =>
  (kV P (Instr.buildSlice 70 0 #[]) w fun v49 w =>
  (kV P (Builtin.append_ #[70, 70] 70 #[v49, v52]) w fun v53 w =>
  kV P (Instr.loadAt 73 v3) w fun v54 w =>
  kV P (Instr.buildSlice 70 1 #[(0, v54)]) w fun v55 w =>
  kV P (Builtin.append_ #[70, 70] 70 #[v53, v55]) w fun v56 w =>
  kV P (Builtin.append_ #[70, 70] 70 #[v56, v59]) w fun v60 w =>
  J6 [v60] w) ∧
  (kV P (Instr.loadAt 73 v3) w fun v54_1 w =>
  (kV P (Builtin.append_ #[70, 70] 70 #[v49, v52]) w fun v53_1 w =>
  kV P (Instr.buildSlice 70 1 #[(0, v54_1)]) w fun v55_1 w =>
  kV P (Builtin.append_ #[70, 70] 70 #[v53_1, v55_1]) w fun v56_1 w =>
  kV P (Builtin.append_ #[70, 70] 70 #[v56_1, v59]) w fun v60_1 w =>
  J6 [v60_1] w) ∧
  (kV P (Instr.buildSlice 70 1 #[(0, v54_1)]) w fun v55_2 w =>
  kV P (Builtin.append_ #[70, 70] 70 #[v49, v52]) w fun v53_2 w =>
  kV P (Builtin.append_ #[70, 70] 70 #[v53_2, v55_2]) w fun v56_2 w =>
  kV P (Builtin.append_ #[70, 70] 70 #[v56_2, v59]) w fun v60_2 w =>
  J6 [v60_2] w))) ∧
  (kV P (Instr.loadAt 73 v3) w fun v54_2 w =>
  (kV P (Instr.buildSlice 70 0 #[]) w fun v49_1 w =>
  (kV P (Builtin.append_ #[70, 70] 70 #[v49_1, v52]) w fun v53_3 w =>
  kV P (Instr.buildSlice 70 1 #[(0, v54_2)]) w fun v55_3 w =>
  kV P (Builtin.append_ #[70, 70] 70 #[v53_3, v55_3]) w fun v56_3 w =>
  kV P (Builtin.append_ #[70, 70] 70 #[v56_3, v59]) w fun v60_3 w =>
  J6 [v60_3] w) ∧
  (kV P (Instr.buildSlice 70 1 #[(0, v54_2)]) w fun v55_4 w =>
  kV P (Builtin.append_ #[70, 70] 70 #[v49_1, v52]) w fun v53_4 w =>
  kV P (Builtin.append_ #[70, 70] 70 #[v53_4, v55_4]) w fun v56_4 w =>
  kV P (Builtin.append_ #[70, 70] 70 #[v56_4, v59]) w fun v60_4 w =>
  J6 [v60_4] w)) ∧
  (kV P (Instr.buildSlice 70 1 #[(0, v54_2)]) w fun v55_5 w =>
  kV P (Instr.buildSlice 70 0 #[]) w fun v49_2 w =>
  kV P (Builtin.append_ #[70, 70] 70 #[v49_2, v52]) w fun v53_5 w =>
  kV P (Builtin.append_ #[70, 70] 70 #[v53_5, v55_5]) w fun v56_5 w =>
  kV P (Builtin.append_ #[70, 70] 70 #[v56_5, v59]) w fun v60_5 w =>
  J6 [v60_5] w))) w) fun s6 w => ∀ _ : Nat → Value,
  joinL (fun J8 =>
  kV P (binV .eql 3 (.tmp 61) (.const (.int .i64 2)) (s0.getD 1 undef) (.int .i64 2)) w fun v62 w =>
  condK v62
  (drewK (fun w =>
  pV P (Instr.sliceAt 70 (s6.getD 0 undef) none (some (s0.getD 2 undef)) none) fun v66 =>
  pV P (binV .add 3 (.tmp 69) (.const (.int .i64 1)) (s0.getD 2 undef) (.int .i64 1)) fun v70 =>
  pV P (Instr.sliceAt 70 (s6.getD 0 undef) (some v70) none none) fun v71 =>
  kV P (Instr.buildSlice 70 0 #[]) w fun v63 w =>
  kV P (Builtin.append_ #[70, 70] 70 #[v63, v66]) w fun v67 w =>
  kV P (Builtin.append_ #[70, 70] 70 #[v67, v71]) w fun v72 w =>
  J8 [v72] w) w)
  (J8 [(s6.getD 0 undef)] w)) fun s8 w => ∀ _ : Nat → Value,
  K (s8.getD 0 undef) w)) [(.int .i64 0), (.int .i64 0), (.int .i64 (-1)), (.int .i64 0)] w
theorem F25_eq (P : Program) (t0 t1 : Value) (w : World) (K : Value → World → Prop) : funE P ⟨[(14, 999), (16, 999)], [(6, [7, 5, 6, 8])], [(15, [9]), (17, [9]), (7, [7, 5, 6]), (10, [7])]⟩ Try.f25 [t0, t1] w K = F25 P t0 t1 w K := by kernel_rfl
theorem F25_ok (t0 t1 : Value) (w : World) (K : Value → World → Prop) (h : F25 Try.prog t0 t1 w K) : callsK Try.prog 25 #[t0, t1] w K := calls_of_eq mixedT Try.func25 (F25_eq _ t0 t1 w K) h

/-- (mintmark/mintmarkref11.Tlb).Look -/
def F26 (P : Program) (t0 t1 t2 : Value) (w : World) (K : Value → World → Prop) : Prop :=
  kV P (Instr.alloc 73 true (.tuple #[])) w fun v6 w =>
  loopT (fun R0 s0 w => ∀ _ : Nat → Value,
  kV P (Builtin.len_ #[70] 3 #[t0]) w fun v11 w =>
  kV P (binV .lss 3 (.tmp 9) (.tmp 11) (s0.getD 0 undef) v11) w fun v12 w =>
  condK v12
  (kV P (Instr.indexAt 70 t0 (s0.getD 0 undef)) w fun v17 w =>
  kV P (Instr.fieldAt 73 v17 0) w fun v18 w =>
  kV P (Instr.loadAt 22 v18) w fun v19 w =>
  kV P (binV .eql 22 (.tmp 19) (.tmp 20) v19 t1) w fun v21 w =>
  joinK (fun J2 : Value → World → Prop => gdK (yb v21) true (fun k => k t0 w) w fun v23 w =>
  gdK (yb v21) true (fun k => k (s0.getD 0 undef) w) w fun v24 w =>
  gdK (yb v21) true (fun k => kV P (Instr.indexAt 70 v23 v24) w k) w fun v25 w =>
  gdK (yb v21) true (fun k => kV P (Instr.fieldAt 73 v25 1) w k) w fun v26 w =>
  gdK (yb v21) true (fun k => kV P (Instr.loadAt 22 v26) w k) w fun v27 w =>
  gdK (yb v21) true (fun k => k t2 w) w fun v28 w =>
  gdK (yb v21) true (fun k => kV P (binV .eql 22 (.tmp 27) (.tmp 28) v27 v28) w k) w fun v29 w =>
  kN P (pickN v21 v29 (.bool false)) w fun v30_1 w =>
  J2 v30_1 w) fun v30 w =>
  condK v30
  (kV P (Instr.indexAt 70 t0 (s0.getD 0 undef)) w fun v33 w =>
  kV P (Instr.loadAt 73 v33) w fun v34 w =>
  kU P (Instr.storeAt 73 v6 v34) w fun _ w =>
  retV P 73 v6 w fun r3 =>
  K (.tuple #[r3, (.bool true)]) w)
  (kV P (binV .add 3 (.tmp 13) (.const (.int .i64 1)) (s0.getD 0 undef) (.int .i64 1)) w fun v14 w =>
  R0 [v14] w))
  (kV P (Instr.build 73 #[]) w fun v35 w =>
  kU P (Instr.storeAt 73 v6 v35) w fun _ w =>
  retV P 73 v6 w fun r4 =>
  K (.tuple #[r4, (.bool false)]) w)) [(.int .i64 0)] w
theorem F26_eq (P : Program) (t0 t1 t2 : Value) (w : World) (K : Value → World → Prop) : funE P ⟨[], [(2, [8])], []⟩ Try.f26 [t0, t1, t2] w K = F26 P t0 t1 t2 w K := by kernel_rfl
theorem F26_ok (t0 t1 t2 : Value) (w : World) (K : Value → World → Prop) (h : F26 Try.prog t0 t1 t2 w K) : callsK Try.prog 26 #[t0, t1, t2] w K := calls_of_eq mixedT Try.func26 (F26_eq _ t0 t1 t2 w K) h

/-- (*mintmark/tlb.Tlb).Drop -/
def F27 (P : Program) (t0 t1 t2 : Value) (w : World) (K : Value → World → Prop) : Prop :=
  kV P (binV .neq 89 (.tmp 6) (.const (.pointer none)) t0 (.pointer none)) w fun v7 w =>
  condK v7
  (kN P (callN (.func (.func 53) #[] #[]) #[t0, t2]) w fun v10 w =>
  kN P (callN (.func (.func 55) #[] #[]) #[t1, t2]) w fun v13 w =>
  kN P (callN (.func (.func 54) #[] #[]) #[v10, v13]) w fun v14 w =>
  K (.tuple #[]) w)
  (K (.tuple #[]) w)
theorem F27_eq (P : Program) (t0 t1 t2 : Value) (w : World) (K : Value → World → Prop) : funE P ⟨[], [], []⟩ Try.f27 [t0, t1, t2] w K = F27 P t0 t1 t2 w K := by kernel_rfl
theorem F27_ok (t0 t1 t2 : Value) (w : World) (K : Value → World → Prop) (h : F27 Try.prog t0 t1 t2 w K) : callsK Try.prog 27 #[t0, t1, t2] w K := calls_of_eq mixedT Try.func27 (F27_eq _ t0 t1 t2 w K) h

/-- (mintmark/mintmarkref11.Tlb).Drop -/
def F28 (P : Program) (t0 t1 t2 : Value) (w : World) (K : Value → World → Prop) : Prop :=
  loopT (fun R0 s0 w => ∀ _ : Nat → Value,
  kV P (Builtin.len_ #[70] 3 #[t0]) w fun v11 w =>
  kV P (binV .lss 3 (.tmp 9) (.tmp 11) (s0.getD 1 undef) v11) w fun v12 w =>
  condK v12
  (joinL (fun J2 =>
  kV P (Instr.indexAt 70 t0 (s0.getD 1 undef)) w fun v17 w =>
  kV P (Instr.fieldAt 73 v17 0) w fun v18 w =>
  kV P (Instr.loadAt 22 v18) w fun v19 w =>
  kV P (binV .neq 22 (.tmp 19) (.tmp 20) v19 t1) w fun v21 w =>
  joinK (fun J4 : Value → World → Prop => gdK (yb v21) false (fun k => k t0 w) w fun v23 w =>
  gdK (yb v21) false (fun k => k (s0.getD 1 undef) w) w fun v24 w =>
  gdK (yb v21) false (fun k => kV P (Instr.indexAt 70 v23 v24) w k) w fun v25 w =>
  gdK (yb v21) false (fun k => kV P (Instr.fieldAt 73 v25 1) w k) w fun v26 w =>
  gdK (yb v21) false (fun k => kV P (Instr.loadAt 22 v26) w k) w fun v27 w =>
  gdK (yb v21) false (fun k => k t2 w) w fun v28 w =>
  gdK (yb v21) false (fun k => kV P (binV .neq 22 (.tmp 27) (.tmp 28) v27 v28) w k) w fun v29 w =>
  kN P (pickN v21 (.bool true) v29) w fun v30_1 w =>
  J4 v30_1 w) fun v30 w =>
  condK v30
  (kV P (Instr.indexAt 70 t0 (s0.getD 1 undef)) w fun v34 w =>
  kV P (Instr.loadAt 73 v34) w fun v35 w =>
  kV P (Instr.buildSlice 70 1 #[(0, v35)]) w fun v36 w =>
  kV P (Builtin.append_ #[70, 70] 70 #[(s0.getD 0 undef), v36]) w fun v37 w =>
  J2 [v37] w)
  (J2 [(s0.getD 0 undef)] w)) fun s2 w => ∀ _ : Nat → Value,
  kV P (binV .add 3 (.tmp 13) (.const (.int .i64 1)) (s0.getD 1 undef) (.int .i64 1)) w fun v14 w =>
  R0 [(s2.getD 0 undef), v14] w)
  (K (s0.getD 0 undef) w)) [(.slice none 0 0), (.int .i64 0)] w
theorem F28_eq (P : Program) (t0 t1 t2 : Value) (w : World) (K : Value → World → Prop) : funE P ⟨[], [(3, [7, 8])], [(4, [7])]⟩ Try.f28 [t0, t1, t2] w K = F28 P t0 t1 t2 w K := by kernel_rfl
theorem F28_ok (t0 t1 t2 : Value) (w : World) (K : Value → World → Prop) (h : F28 Try.prog t0 t1 t2 w K) : callsK Try.prog 28 #[t0, t1, t2] w K := calls_of_eq mixedT Try.func28 (F28_eq _ t0 t1 t2 w K) h

/-- (*mintmark/tlb.Tlb).Flush -/
def F29 (P : Program) (t0 t1 : Value) (w : World) (K : Value → World → Prop) : Prop :=
  kV P (Instr.box 22 t1) w fun v3 w =>
  kN P (callN (.func (.func 57) #[] #[]) #[t0, (.func (.func 58) #[] #[v3])]) w fun v6 w =>
  K (.tuple #[]) w
theorem F29_eq (P : Program) (t0 t1 : Value) (w : World) (K : Value → World → Prop) : funE P ⟨[], [], []⟩ Try.f29 [t0, t1] w K = F29 P t0 t1 w K := by kernel_rfl
theorem F29_ok (t0 t1 : Value) (w : World) (K : Value → World → Prop) (h : F29 Try.prog t0 t1 w K) : callsK Try.prog 29 #[t0, t1] w K := calls_of_eq mixedT Try.func29 (F29_eq _ t0 t1 w K) h

/-- (mintmark/mintmarkref11.Tlb).Flush -/
def F30 (P : Program) (t0 t1 : Value) (w : World) (K : Value → World → Prop) : Prop :=
  loopT (fun R0 s0 w => ∀ _ : Nat → Value,
  kV P (Builtin.len_ #[70] 3 #[t0]) w fun v9 w =>
  kV P (binV .lss 3 (.tmp 7) (.tmp 9) (s0.getD 1 undef) v9) w fun v10 w =>
  condK v10
  (joinL (fun J2 =>
  kV P (Instr.indexAt 70 t0 (s0.getD 1 undef)) w fun v15 w =>
  kV P (Instr.fieldAt 73 v15 0) w fun v16 w =>
  kV P (Instr.loadAt 22 v16) w fun v17 w =>
  kV P (binV .neq 22 (.tmp 17) (.tmp 18) v17 t1) w fun v19 w =>
  condK v19
  (kV P (Instr.indexAt 70 t0 (s0.getD 1 undef)) w fun v23 w =>
  kV P (Instr.loadAt 73 v23) w fun v24 w =>
  kV P (Instr.buildSlice 70 1 #[(0, v24)]) w fun v25 w =>
  kV P (Builtin.append_ #[70, 70] 70 #[(s0.getD 0 undef), v25]) w fun v26 w =>
  J2 [v26] w)
  (J2 [(s0.getD 0 undef)] w)) fun s2 w => ∀ _ : Nat → Value,
  kV P (binV .add 3 (.tmp 11) (.const (.int .i64 1)) (s0.getD 1 undef) (.int .i64 1)) w fun v12 w =>
  R0 [(s2.getD 0 undef), v12] w)
  (K (s0.getD 0 undef) w)) [(.slice none 0 0), (.int .i64 0)] w
theorem F30_eq (P : Program) (t0 t1 : Value) (w : World) (K : Value → World → Prop) : funE P ⟨[], [(3, [5, 6])], [(4, [5])]⟩ Try.f30 [t0, t1] w K = F30 P t0 t1 w K := by kernel_rfl
theorem F30_ok (t0 t1 : Value) (w : World) (K : Value → World → Prop) (h : F30 Try.prog t0 t1 w K) : callsK Try.prog 30 #[t0, t1] w K := calls_of_eq mixedT Try.func30 (F30_eq _ t0 t1 w K) h

/-- (*mintmark/tlb.Tlb).Clear -/
def F31 (P : Program) (t0 : Value) (w : World) (K : Value → World → Prop) : Prop :=
  kN P (callN (.func (.func 57) #[] #[]) #[t0, (.func (.func 59) #[] #[])]) w fun v3 w =>
  K (.tuple #[]) w
theorem F31_eq (P : Program) (t0 : Value) (w : World) (K : Value → World → Prop) : funE P ⟨[], [], []⟩ Try.f31 [t0] w K = F31 P t0 w K := by kernel_rfl
theorem F31_ok (t0 : Value) (w : World) (K : Value → World → Prop) (h : F31 Try.prog t0 w K) : callsK Try.prog 31 #[t0] w K := calls_of_eq mixedT Try.func31 (F31_eq _ t0 w K) h

/-- (*mintmark/tlb.Tlb).Evict -/
def F32 (P : Program) (t0 t1 : Value) (w : World) (K : Value → World → Prop) : Prop :=
  kN P (callN (.func (.func 22) #[] #[]) #[t0]) w fun v7 w =>
  kV P (Builtin.len_ #[64] 3 #[v7]) w fun v9 w =>
  kV P (binV .eql 3 (.tmp 9) (.const (.int .i64 0)) v9 (.int .i64 0)) w fun v10 w =>
  condK v10
  (K (.tuple #[]) w)
  (kV P (Builtin.len_ #[64] 3 #[v7]) w fun v14 w =>
  kV P (binV .rem 3 (.tmp 12) (.tmp 14) t1 v14) w fun v15 w =>
  kV P (Builtin.len_ #[64] 3 #[v7]) w fun v17 w =>
  kV P (binV .add 3 (.tmp 15) (.tmp 17) v15 v17) w fun v18 w =>
  kV P (Builtin.len_ #[64] 3 #[v7]) w fun v20 w =>
  kV P (binV .rem 3 (.tmp 18) (.tmp 20) v18 v20) w fun v21 w =>
  kV P (Instr.indexAt 64 v7 v21) w fun v22 w =>
  kV P (Instr.loadAt 52 v22) w fun v23 w =>
  kV P (Instr.alloc 52 true (.tuple #[])) w fun v5 w =>
  kU P (Instr.storeAt 52 v5 v23) w fun _ w =>
  kV P (Instr.fieldAt 52 v5 0) w fun v25 w =>
  kV P (Instr.loadAt 22 v25) w fun v26 w =>
  kV P (Instr.fieldAt 52 v5 1) w fun v27 w =>
  kV P (Instr.loadAt 22 v27) w fun v28 w =>
  kN P (callN (.func (.func 27) #[] #[]) #[t0, v26, v28]) w fun v29 w =>
  K (.tuple #[]) w)
theorem F32_eq (P : Program) (t0 t1 : Value) (w : World) (K : Value → World → Prop) : funE P ⟨[], [], []⟩ Try.f32 [t0, t1] w K = F32 P t0 t1 w K := by kernel_rfl
theorem F32_ok (t0 t1 : Value) (w : World) (K : Value → World → Prop) (h : F32 Try.prog t0 t1 w K) : callsK Try.prog 32 #[t0, t1] w K := calls_of_eq mixedT Try.func32 (F32_eq _ t0 t1 w K) h

/-- (mintmark/mintmarkref11.Tlb).Evict -/
def F33 (P : Program) (t0 t1 : Value) (w : World) (K : Value → World → Prop) : Prop :=
  kV P (Builtin.len_ #[70] 3 #[t0]) w fun v7 w =>
  kV P (binV .eql 3 (.tmp 7) (.const (.int .i64 0)) v7 (.int .i64 0)) w fun v8 w =>
  condK v8
  (K t0 w)
  (kV P (Builtin.len_ #[70] 3 #[t0]) w fun v12 w =>
  kV P (binV .rem 3 (.tmp 10) (.tmp 12) t1 v12) w fun v13 w =>
  kV P (Builtin.len_ #[70] 3 #[t0]) w fun v15 w =>
  kV P (binV .add 3 (.tmp 13) (.tmp 15) v13 v15) w fun v16 w =>
  kV P (Builtin.len_ #[70] 3 #[t0]) w fun v18 w =>
  kV P (binV .rem 3 (.tmp 16) (.tmp 18) v16 v18) w fun v19 w =>
  drewK (fun w =>
  pV P (Instr.sliceAt 70 t0 none (some v19) none) fun v23 =>
  pV P (binV .add 3 (.tmp 26) (.const (.int .i64 1)) v19 (.int .i64 1)) fun v27 =>
  pV P (Instr.sliceAt 70 t0 (some v27) none none) fun v28 =>
  kV P (Instr.buildSlice 70 0 #[]) w fun v20 w =>
  kV P (Builtin.append_ #[70, 70] 70 #[v20, v23]) w fun v24 w =>
  kV P (Builtin.append_ #[70, 70] 70 #[v24, v28]) w fun v29 w =>
  K v29 w) w)
theorem F33_eq (P : Program) (t0 t1 : Value) (w : World) (K : Value → World → Prop) : funE P ⟨[(4, 999)], [], []⟩ Try.f33 [t0, t1] w K = F33 P t0 t1 w K := by kernel_rfl
theorem F33_ok (t0 t1 : Value) (w : World) (K : Value → World → Prop) (h : F33 Try.prog t0 t1 w K) : callsK Try.prog 33 #[t0, t1] w K := calls_of_eq mixedT Try.func33 (F33_eq _ t0 t1 w K) h

/-- mintmark/mintmarklaw11.same -/
def F34 (P : Program) (t0 t1 : Value) (w : World) (K : Value → World → Prop) : Prop :=
  kV P (Builtin.len_ #[64] 3 #[t0]) w fun v7 w =>
  kV P (Builtin.len_ #[70] 3 #[t1]) w fun v9 w =>
  kV P (binV .neq 3 (.tmp 7) (.tmp 9) v7 v9) w fun v10 w =>
  condK v10
  (K (.bool false) w)
  (loopT (fun R0 s0 w => ∀ _ : Nat → Value,
  kV P (Builtin.len_ #[64] 3 #[t0]) w fun v13 w =>
  kV P (binV .lss 3 (.tmp 11) (.tmp 13) (s0.getD 0 undef) v13) w fun v14 w =>
  condK v14
  (drewK (fun w =>
  sV P (Instr.indexAt 64 t0 (s0.getD 0 undef)) w fun v19 =>
  sV P (Instr.fieldAt 52 v19 0) w fun v20 =>
  sV P (Instr.loadAt 22 v20) w fun v21 =>
  sV P (Instr.indexAt 64 t0 (s0.getD 0 undef)) w fun v24 =>
  sV P (Instr.fieldAt 52 v24 1) w fun v25 =>
  sV P (Instr.loadAt 22 v25) w fun v26 =>
  sV P (Instr.indexAt 64 t0 (s0.getD 0 undef)) w fun v29 =>
  sV P (Instr.fieldAt 52 v29 2) w fun v30 =>
  sV P (Instr.fieldAt 50 v30 1) w fun v31 =>
  sV P (Instr.loadAt 22 v31) w fun v32 =>
  sV P (Instr.build 73 #[(0, v21), (1, v26), (2, v32)]) w fun v33 =>
  sV P (Instr.indexAt 70 t1 (s0.getD 0 undef)) w fun v36 =>
  sV P (Instr.loadAt 73 v36) w fun v37 =>
  sV P (binV .neq 73 (.tmp 33) (.tmp 37) v33 v37) w fun v38 =>
  condK v38
  (K (.bool false) w)
  (kV P (binV .add 3 (.tmp 15) (.const (.int .i64 1)) (s0.getD 0 undef) (.int .i64 1)) w fun v16 w =>
  R0 [v16] w)) w)
  (K (.bool true) w)) [(.int .i64 0)] w)
theorem F34_eq (P : Program) (t0 t1 : Value) (w : World) (K : Value → World → Prop) : funE P ⟨[], [(4, [5])], []⟩ Try.f34 [t0, t1] w K = F34 P t0 t1 w K := by kernel_rfl
theorem F34_ok (t0 t1 : Value) (w : World) (K : Value → World → Prop) (h : F34 Try.prog t0 t1 w K) : callsK Try.prog 34 #[t0, t1] w K := calls_of_eq mixedT Try.func34 (F34_eq _ t0 t1 w K) h

/-- (*mintmark/tlb.Tlb).of -/
def F53 (P : Program) (t0 t1 : Value) (w : World) (K : Value → World → Prop) : Prop :=
  kV P (binV .rem 22 (.tmp 6) (.const (.int .u64 4)) t1 (.int .u64 4)) w fun v7 w =>
  kN P (nilN t0) w fun v8 w =>
  kV P (Instr.fieldAt 58 v8 0) w fun v9 w =>
  kV P (Instr.indexAt 56 v9 v7) w fun v10 w =>
  K v10 w
theorem F53_eq (P : Program) (t0 t1 : Value) (w : World) (K : Value → World → Prop) : funE P ⟨[], [], []⟩ Try.f53 [t0, t1] w K = F53 P t0 t1 w K := by kernel_rfl
theorem F53_ok (t0 t1 : Value) (w : World) (K : Value → World → Prop) (h : F53 Try.prog t0 t1 w K) : callsK Try.prog 53 #[t0, t1] w K := calls_of_eq mixedT Try.func53 (F53_eq _ t0 t1 w K) h

/-- (*mintmark/tlb.set).drop -/
def F54 (P : Program) (t0 t1 : Value) (w : World) (K : Value → World → Prop) : Prop :=
  kN P (nilN t0) w fun v6 w =>
  kV P (Instr.fieldAt 55 v6 1) w fun v7 w =>
  kV P (Instr.loadAt 3 v7) w fun v8 w =>
  kV P (binV .sub 3 (.tmp 8) (.const (.int .i64 1)) v8 (.int .i64 1)) w fun v9 w =>
  loopT (fun R0 s0 w => ∀ _ : Nat → Value,
  kV P (binV .geq 3 (.tmp 10) (.const (.int .i64 0)) (s0.getD 0 undef) (.int .i64 0)) w fun v11 w =>
  condK v11
  (joinL (fun J2 =>
  kN P (nilN t0) w fun v17 w =>
  kV P (Instr.fieldAt 55 v17 0) w fun v18 w =>
  kV P (Instr.indexAt 53 v18 (s0.getD 0 undef)) w fun v19 w =>
  kV P (Instr.loadAt 52 v19) w fun v20 w =>
  kN P (callN t1 #[v20]) w fun v21 w =>
  condK v21
  (kN P (callN (.func (.func 56) #[] #[]) #[t0, (s0.getD 0 undef)]) w fun v24 w =>
  J2 [] w)
  (J2 [] w)) fun s2 w => ∀ _ : Nat → Value,
  kV P (binV .sub 3 (.tmp 12) (.const (.int .i64 1)) (s0.getD 0 undef) (.int .i64 1)) w fun v13 w =>
  R0 [v13] w)
  (K (.tuple #[]) w)) [v9] w
theorem F54_eq (P : Program) (t0 t1 : Value) (w : World) (K : Value → World → Prop) : funE P ⟨[], [(1, [4])], [(2, [])]⟩ Try.f54 [t0, t1] w K = F54 P t0 t1 w K := by kernel_rfl
theorem F54_ok (t0 t1 : Value) (w : World) (K : Value → World → Prop) (h : F54 Try.prog t0 t1 w K) : callsK Try.prog 54 #[t0, t1] w K := calls_of_eq mixedT Try.func54 (F54_eq _ t0 t1 w K) h

/-- mintmark/tlb.page -/
def F55 (P : Program) (t0 t1 : Value) (w : World) (K : Value → World → Prop) : Prop :=
  kV P (Instr.box 22 t0) w fun v2 w =>
  kV P (Instr.box 22 t1) w fun v3 w =>
  K (.func (.func 80) #[] #[v2, v3]) w
theorem F55_eq (P : Program) (t0 t1 : Value) (w : World) (K : Value → World → Prop) : funE P ⟨[], [], []⟩ Try.f55 [t0, t1] w K = F55 P t0 t1 w K := by kernel_rfl
theorem F55_ok (t0 t1 : Value) (w : World) (K : Value → World → Prop) (h : F55 Try.prog t0 t1 w K) : callsK Try.prog 55 #[t0, t1] w K := calls_of_eq mixedT Try.func55 (F55_eq _ t0 t1 w K) h

/-- (*mintmark/tlb.set).take -/
def F56 (P : Program) (t0 t1 : Value) (w : World) (K : Value → World → Prop) : Prop :=
  drewK (fun w =>
  sN P (nilN t0) w fun v5 =>
  sV P (Instr.fieldAt 55 v5 0) w fun v6 =>
  sV P (Instr.sliceAt 53 v6 (some t1) none none) w fun v8 =>
  sN P (nilN t0) w fun v10 =>
  sV P (Instr.fieldAt 55 v10 0) w fun v11 =>
  sV P (binV .add 3 (.tmp 12) (.const (.int .i64 1)) t1 (.int .i64 1)) w fun v13 =>
  sN P (nilN t0) w fun v15 =>
  sV P (Instr.fieldAt 55 v15 1) w fun v16 =>
  sV P (Instr.loadAt 3 v16) w fun v17 =>
  sV P (Instr.sliceAt 53 v11 (some v13) (some v17) none) w fun v18 =>
  kV P (Builtin.copy_ #[64, 64] 3 #[v8, v18]) w fun v19 w =>
  kN P (nilN t0) w fun v21 w =>
  kV P (Instr.fieldAt 55 v21 1) w fun v22 w =>
  kV P (Instr.loadAt 3 v22) w fun v23 w =>
  kV P (binV .sub 3 (.tmp 23) (.const (.int .i64 1)) v23 (.int .i64 1)) w fun v24 w =>
  kN P (nilN t0) w fun v25 w =>
  kV P (Instr.fieldAt 55 v25 1) w fun v26 w =>
  kU P (Instr.storeAt 3 v26 v24) w fun _ w =>
  drewK (fun w =>
  sN P (nilN t0) w fun v29 =>
  sV P (Instr.fieldAt 55 v29 1) w fun v30 =>
  sV P (Instr.loadAt 3 v30) w fun v31 =>
  sV P (Instr.build 52 #[]) w fun v32 =>
  sN P (nilN t0) w fun v33 =>
  sV P (Instr.fieldAt 55 v33 0) w fun v34 =>
  kV P (Instr.indexAt 53 v34 v31) w fun v35 w =>
  kU P (Instr.storeAt 52 v35 v32) w fun _ w =>
  K (.tuple #[]) w) w) w
theorem F56_eq (P : Program) (t0 t1 : Value) (w : World) (K : Value → World → Prop) : funE P ⟨[(2, 8), (0, 15)], [], []⟩ Try.f56 [t0, t1] w K = F56 P t0 t1 w K := by kernel_rfl
theorem F56_ok (t0 t1 : Value) (w : World) (K : Value → World → Prop) (h : F56 Try.prog t0 t1 w K) : callsK Try.prog 56 #[t0, t1] w K := calls_of_eq mixedT Try.func56 (F56_eq _ t0 t1 w K) h

/-- (*mintmark/tlb.Tlb).every -/
def F57 (P : Program) (t0 t1 : Value) (w : World) (K : Value → World → Prop) : Prop :=
  kV P (binV .eql 89 (.tmp 5) (.const (.pointer none)) t0 (.pointer none)) w fun v6 w =>
  condK v6
  (K (.tuple #[]) w)
  (loopT (fun R0 s0 w => ∀ _ : Nat → Value,
  kV P (binV .lss 3 (.tmp 7) (.const (.int .i64 4)) (s0.getD 0 undef) (.int .i64 4)) w fun v8 w =>
  condK v8
  (kN P (nilN t0) w fun v12 w =>
  kV P (Instr.fieldAt 58 v12 0) w fun v13 w =>
  kV P (Instr.indexAt 56 v13 (s0.getD 0 undef)) w fun v14 w =>
  kN P (callN (.func (.func 54) #[] #[]) #[v14, t1]) w fun v16 w =>
  kV P (binV .add 3 (.tmp 7) (.const (.int .i64 1)) (s0.getD 0 undef) (.int .i64 1)) w fun v17 w =>
  R0 [v17] w)
  (K (.tuple #[]) w)) [(.int .i64 0)] w)
theorem F57_eq (P : Program) (t0 t1 : Value) (w : World) (K : Value → World → Prop) : funE P ⟨[], [(2, [7])], []⟩ Try.f57 [t0, t1] w K = F57 P t0 t1 w K := by kernel_rfl
theorem F57_ok (t0 t1 : Value) (w : World) (K : Value → World → Prop) (h : F57 Try.prog t0 t1 w K) : callsK Try.prog 57 #[t0, t1] w K := calls_of_eq mixedT Try.func57 (F57_eq _ t0 t1 w K) h

/-- (*mintmark/tlb.Tlb).Flush$1 -/
def F58 (P : Program) (t0 t1 : Value) (w : World) (K : Value → World → Prop) : Prop :=
  kV P (Instr.box 52 t0) w fun v2 w =>
  kV P (Instr.fieldAt 52 v2 0) w fun v4 w =>
  kV P (Instr.loadAt 22 v4) w fun v5 w =>
  kV P (Instr.loadAt 22 t1) w fun v6 w =>
  kV P (binV .eql 22 (.tmp 5) (.tmp 6) v5 v6) w fun v7 w =>
  K v7 w
theorem F58_eq (P : Program) (t0 t1 : Value) (w : World) (K : Value → World → Prop) : funE P ⟨[], [], []⟩ Try.f58 [t0, t1] w K = F58 P t0 t1 w K := by kernel_rfl
theorem F58_ok (t0 t1 : Value) (w : World) (K : Value → World → Prop) (h : F58 Try.prog t0 t1 w K) : callsK Try.prog 58 #[t0, t1] w K := calls_of_eq mixedT Try.func58 (F58_eq _ t0 t1 w K) h

/-- (*mintmark/tlb.Tlb).Clear$1 -/
def F59 (P : Program) (t0 : Value) (w : World) (K : Value → World → Prop) : Prop :=
  kV P (Instr.box 52 t0) w fun v1 w =>
  K (.bool true) w
theorem F59_eq (P : Program) (t0 : Value) (w : World) (K : Value → World → Prop) : funE P ⟨[], [], []⟩ Try.f59 [t0] w K = F59 P t0 w K := by kernel_rfl
theorem F59_ok (t0 : Value) (w : World) (K : Value → World → Prop) (h : F59 Try.prog t0 w K) : callsK Try.prog 59 #[t0] w K := calls_of_eq mixedT Try.func59 (F59_eq _ t0 w K) h

/-- mintmark/tlb.page$1 -/
def F80 (P : Program) (t0 t1 t2 : Value) (w : World) (K : Value → World → Prop) : Prop :=
  kV P (Instr.box 52 t0) w fun v3 w =>
  kV P (Instr.fieldAt 52 v3 0) w fun v5 w =>
  kV P (Instr.loadAt 22 v5) w fun v6 w =>
  kV P (Instr.loadAt 22 t1) w fun v7 w =>
  kV P (binV .eql 22 (.tmp 6) (.tmp 7) v6 v7) w fun v8 w =>
  joinK (fun J0 : Value → World → Prop => gdK (yb v8) true (fun k => kV P (Instr.fieldAt 52 v3 1) w k) w fun v10 w =>
  gdK (yb v8) true (fun k => kV P (Instr.loadAt 22 v10) w k) w fun v11 w =>
  gdK (yb v8) true (fun k => kV P (Instr.loadAt 22 t2) w k) w fun v12 w =>
  gdK (yb v8) true (fun k => kV P (binV .eql 22 (.tmp 11) (.tmp 12) v11 v12) w k) w fun v13 w =>
  kN P (pickN v8 v13 (.bool false)) w fun v14_1 w =>
  J0 v14_1 w) fun v14 w =>
  K v14 w
theorem F80_eq (P : Program) (t0 t1 t2 : Value) (w : World) (K : Value → World → Prop) : funE P ⟨[], [], []⟩ Try.f80 [t0, t1, t2] w K = F80 P t0 t1 t2 w K := by kernel_rfl
theorem F80_ok (t0 t1 t2 : Value) (w : World) (K : Value → World → Prop) (h : F80 Try.prog t0 t1 t2 w K) : callsK Try.prog 80 #[t0, t1, t2] w K := calls_of_eq mixedT Try.func80 (F80_eq _ t0 t1 t2 w K) h

end Go.Proofs.Ytlklhempbpphhaa
