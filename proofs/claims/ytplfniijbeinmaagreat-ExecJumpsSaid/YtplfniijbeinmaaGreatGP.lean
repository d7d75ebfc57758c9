/- The formulas of functions of this seat, told otherwise; conditions: none. -/
import Derived.Test.YtplfniijbeinmaaGreatFX
namespace Go.Proofs.YtplfniijbeinmaaGreat
open Go.Fx
set_option linter.unusedVariables false
set_option linter.constructorNameAsVariable false
set_option maxRecDepth 100000
/-- mintmark/mintmarklaw17.Built -/
def G7 (P : Program) (t0 : Value) (w : World) (K : Value → World → Prop) : Prop :=
  kV P (Instr.box 45 t0) w fun v1 w =>
  kV P (Instr.alloc 35 true (.tuple #[])) w fun v3 w =>
  kN P (callN (.func (.func 21) #[] #[]) #[(.int .i64 3)]) w fun v12 w =>
  kV P (Instr.extract v12 0) w fun v13 w =>
  kV P (Instr.extract v12 1) w fun v14 w =>
  kN P (callN (.func (.func 22) #[] #[]) #[(.int .i64 3)]) w fun v16 w =>
  kV P (Instr.extract v16 0) w fun v17 w =>
  kV P (Instr.extract v16 1) w fun v18 w =>
  kV P (Instr.alloc 35 true (.tuple #[])) w fun v7 w =>
  kU P (Instr.storeAt 35 v7 v17) w fun _ w =>
  kV P (Instr.fieldAt 45 v1 0) w fun v19 w =>
  kV P (Instr.loadAt 39 v19) w fun v20 w =>
  kV P (Builtin.len_ #[39] 3 #[v20]) w fun v21 w =>
  kV P (binV .gtr 3 (.tmp 21) (.const (.int .i64 40)) v21 (.int .i64 40)) w fun v22 w =>
  joinK (fun J0 : Value → World → Prop => gdK (yb v22) false (fun k => kV P (Instr.fieldAt 45 v1 2) w k) w fun v24 w =>
  gdK (yb v22) false (fun k => kV P (Instr.loadAt 43 v24) w k) w fun v25 w =>
  gdK (yb v22) false (fun k => kV P (Builtin.len_ #[43] 3 #[v25]) w k) w fun v26 w =>
  gdK (yb v22) false (fun k => kV P (binV .gtr 3 (.tmp 26) (.const (.int .i64 20)) v26 (.int .i64 20)) w k) w fun v27 w =>
  kN P (pickN v22 (.bool true) v27) w fun v28_1 w =>
  J0 v28_1 w) fun v28 w =>
  joinK (fun J1 : Value → World → Prop => gdK (yb v28) false (fun k => k v14 w) w fun v30 w =>
  gdK (yb v28) false (fun k => kV P (binV .neq 75 (.tmp 30) (.const (.int .i64 0)) v30 (.int .i64 0)) w k) w fun v31 w =>
  kN P (pickN v28 (.bool true) v31) w fun v32_1 w =>
  J1 v32_1 w) fun v32 w =>
  joinK (fun J2 : Value → World → Prop => gdK (yb v32) false (fun k => k v13 w) w fun v34 w =>
  gdK (yb v32) false (fun k => kV P (binV .eql 31 (.tmp 34) (.const (.pointer none)) v34 (.pointer none)) w k) w fun v35 w =>
  kN P (pickN v32 (.bool true) v35) w fun v36_1 w =>
  J2 v36_1 w) fun v36 w =>
  condK v36
  (drewK (fun w =>
  sV P (Instr.loadAt 35 v7) w fun v38 =>
  kU P (Instr.storeAt 35 v3 v38) w fun _ w =>
  retV P 35 v3 w fun r3 =>
  K (.tuple #[v13, r3, (.int .i64 0)]) w) w)
  (loopT (fun R4 s4 w => ∀ _ : Nat → Value,
  kV P (Instr.fieldAt 45 v1 0) w fun v40 w =>
  kV P (Instr.loadAt 39 v40) w fun v41 w =>
  kV P (Builtin.len_ #[39] 3 #[v41]) w fun v42 w =>
  kV P (binV .lss 3 (.tmp 39) (.tmp 42) (s4.getD 0 undef) v42) w fun v43 w =>
  condK v43
  (joinL (fun J6 =>
  kV P (binV .mul 3 (.const (.int .i64 4)) (.tmp 47) (.int .i64 4) (s4.getD 0 undef)) w fun v48 w =>
  kV P (convert 3 22 v48) w fun v49 w =>
  kV P (Instr.fieldAt 45 v1 0) w fun v50 w =>
  kV P (Instr.loadAt 39 v50) w fun v51 w =>
  kV P (Instr.indexAt 39 v51 (s4.getD 0 undef)) w fun v53 w =>
  kV P (Instr.loadAt 38 v53) w fun v54 w =>
  kV P (convert 38 22 v54) w fun v55 w =>
  kN P (callN (.func (.func 23) #[] #[]) #[v13, v49, (.int .i64 4), v55]) w fun v56 w =>
  drewK (fun w =>
  pV P (binV .mul 3 (.const (.int .i64 4)) (.tmp 59) (.int .i64 4) (s4.getD 0 undef)) fun v60 =>
  pV P (convert 3 22 v60) fun v61 =>
  pV P (Instr.fieldAt 45 v1 0) fun v62 =>
  (kV P (Instr.loadAt 35 v7) w fun v58 w =>
  kV P (Instr.loadAt 39 v62) w fun v63 w =>
  pV P (Instr.indexAt 39 v63 (s4.getD 0 undef)) fun v65 =>
  kV P (Instr.loadAt 38 v65) w fun v66 w =>
  pV P (convert 38 22 v66) fun v67 =>
  kN P (callN (.func (.func 24) #[] #[]) #[v58, v61, (.int .i64 4), v67]) w fun v68 w =>
  pV P (Instr.extract v68 0) fun v69 =>
  pV P (Instr.extract v68 1) fun v70 =>
  kU P (Instr.storeAt 35 v7 v69) w fun _ w =>
  J6 [] w) ∧
  (kV P (Instr.loadAt 39 v62) w fun v63_1 w =>
  pV P (Instr.indexAt 39 v63_1 (s4.getD 0 undef)) fun v65_1 =>
  (kV P (Instr.loadAt 35 v7) w fun v58_1 w =>
  kV P (Instr.loadAt 38 v65_1) w fun v66_1 w =>
  pV P (convert 38 22 v66_1) fun v67_1 =>
  kN P (callN (.func (.func 24) #[] #[]) #[v58_1, v61, (.int .i64 4), v67_1]) w fun v68_1 w =>
  pV P (Instr.extract v68_1 0) fun v69_1 =>
  pV P (Instr.extract v68_1 1) fun v70_1 =>
  kU P (Instr.storeAt 35 v7 v69_1) w fun _ w =>
  J6 [] w) ∧
  (kV P (Instr.loadAt 38 v65_1) w fun v66_2 w =>
  pV P (convert 38 22 v66_2) fun v67_2 =>
  kV P (Instr.loadAt 35 v7) w fun v58_2 w =>
  kN P (callN (.func (.func 24) #[] #[]) #[v58_2, v61, (.int .i64 4), v67_2]) w fun v68_2 w =>
  pV P (Instr.extract v68_2 0) fun v69_2 =>
  pV P (Instr.extract v68_2 1) fun v70_2 =>
  kU P (Instr.storeAt 35 v7 v69_2) w fun _ w =>
  J6 [] w))) w) fun s6 w => ∀ _ : Nat → Value,
  kV P (binV .add 3 (.tmp 44) (.const (.int .i64 1)) (s4.getD 0 undef) (.int .i64 1)) w fun v45 w =>
  R4 [v45] w)
  (loopT (fun R8 s8 w => ∀ _ : Nat → Value,
  kV P (Instr.fieldAt 45 v1 2) w fun v72 w =>
  kV P (Instr.loadAt 43 v72) w fun v73 w =>
  kV P (Builtin.len_ #[43] 3 #[v73]) w fun v74 w =>
  kV P (binV .lss 3 (.tmp 71) (.tmp 74) (s8.getD 0 undef) v74) w fun v75 w =>
  condK v75
  (joinL (fun J10 =>
  kV P (binV .mul 3 (.const (.int .i64 16)) (.tmp 79) (.int .i64 16) (s8.getD 0 undef)) w fun v80 w =>
  kV P (convert 3 22 v80) w fun v81 w =>
  kV P (binV .add 22 (.const (.int .u64 4096)) (.tmp 81) (.int .u64 4096) v81) w fun v82 w =>
  kV P (Instr.fieldAt 45 v1 2) w fun v83 w =>
  kV P (Instr.loadAt 43 v83) w fun v84 w =>
  kV P (Instr.indexAt 43 v84 (s8.getD 0 undef)) w fun v86 w =>
  kV P (Instr.loadAt 24 v86) w fun v87 w =>
  kN P (callN (.func (.func 25) #[] #[]) #[v13, v82, v87]) w fun v88 w =>
  drewK (fun w =>
  pV P (binV .mul 3 (.const (.int .i64 16)) (.tmp 91) (.int .i64 16) (s8.getD 0 undef)) fun v92 =>
  pV P (convert 3 22 v92) fun v93 =>
  pV P (binV .add 22 (.const (.int .u64 4096)) (.tmp 93) (.int .u64 4096) v93) fun v94 =>
  pV P (Instr.fieldAt 45 v1 2) fun v95 =>
  (kV P (Instr.loadAt 35 v7) w fun v90 w =>
  kV P (Instr.loadAt 43 v95) w fun v96 w =>
  pV P (Instr.indexAt 43 v96 (s8.getD 0 undef)) fun v98 =>
  kV P (Instr.loadAt 24 v98) w fun v99 w =>
  kN P (callN (.func (.func 26) #[] #[]) #[v90, v94, v99]) w fun v100 w =>
  pV P (Instr.extract v100 0) fun v101 =>
  pV P (Instr.extract v100 1) fun v102 =>
  kU P (Instr.storeAt 35 v7 v101) w fun _ w =>
  J10 [] w) ∧
  (kV P (Instr.loadAt 43 v95) w fun v96_1 w =>
  pV P (Instr.indexAt 43 v96_1 (s8.getD 0 undef)) fun v98_1 =>
  (kV P (Instr.loadAt 35 v7) w fun v90_1 w =>
  kV P (Instr.loadAt 24 v98_1) w fun v99_1 w =>
  kN P (callN (.func (.func 26) #[] #[]) #[v90_1, v94, v99_1]) w fun v100_1 w =>
  pV P (Instr.extract v100_1 0) fun v101_1 =>
  pV P (Instr.extract v100_1 1) fun v102_1 =>
  kU P (Instr.storeAt 35 v7 v101_1) w fun _ w =>
  J10 [] w) ∧
  (kV P (Instr.loadAt 24 v98_1) w fun v99_2 w =>
  kV P (Instr.loadAt 35 v7) w fun v90_2 w =>
  kN P (callN (.func (.func 26) #[] #[]) #[v90_2, v94, v99_2]) w fun v100_2 w =>
  pV P (Instr.extract v100_2 0) fun v101_2 =>
  pV P (Instr.extract v100_2 1) fun v102_2 =>
  kU P (Instr.storeAt 35 v7 v101_2) w fun _ w =>
  J10 [] w))) w) fun s10 w => ∀ _ : Nat → Value,
  kV P (binV .add 3 (.tmp 76) (.const (.int .i64 1)) (s8.getD 0 undef) (.int .i64 1)) w fun v77 w =>
  R8 [v77] w)
  (drewK (fun w =>
  sV P (Instr.loadAt 35 v7) w fun v104 =>
  kU P (Instr.storeAt 35 v3 v104) w fun _ w =>
  retV P 35 v3 w fun r12 =>
  K (.tuple #[v13, r12, (.int .i64 1)]) w) w)) [(.int .i64 0)] w)) [(.int .i64 0)] w)
theorem G7_eq (P : Program) (t0 : Value) (w : World) (K : Value → World → Prop) : funE P ⟨[(15, 3), (14, 999), (9, 999), (4, 3)], [(6, [9]), (11, [10])], [(12, []), (7, [])]⟩ Tryz.f7 [t0] w K = G7 P t0 w K := by kernel_rfl
theorem G7_ok (t0 : Value) (w : World) (K : Value → World → Prop) (h : G7 Tryz.prog t0 w K) : callsK Tryz.prog 7 #[t0] w K := calls_of_eq mixedX Tryz.func7 (G7_eq _ t0 w K) h

end Go.Proofs.YtplfniijbeinmaaGreat
