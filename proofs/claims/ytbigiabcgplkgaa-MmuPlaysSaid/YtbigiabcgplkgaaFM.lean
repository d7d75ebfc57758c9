/- The formulas of functions of this seat, each tied to its calls; conditions: none. -/
import Derived.Test.YtbigiabcgplkgaaProg
import Derived.Test.YtbigiabcgplkgaaFx
import Derived.KernelRfl
namespace Go.Proofs.Ytbigiabcgplkgaa
open Go.Fx
set_option linter.unusedVariables false
set_option linter.constructorNameAsVariable false
set_option maxRecDepth 100000
theorem mixedM : Try.prog.follows .mixedOrders = true := by kernel_rfl
/-- mintmark/walk.Walk -/
def F12 (P : Program) (t0 t1 t2 : Value) (w : World) (K : Value → World → Prop) : Prop :=
  kV P (Instr.alloc 34 true (.tuple #[])) w fun v6 w =>
  kN P (callN (.func (.func 47) #[] #[]) #[t0]) w fun v18 w =>
  kV P (convert 3 23 v18) w fun v19 w =>
  kV P (Instr.build 34 #[]) w fun v20 w =>
  kV P (Instr.alloc 34 true (.tuple #[])) w fun v10 w =>
  kU P (Instr.storeAt 34 v10 v20) w fun _ w =>
  joinL (fun J0 =>
  loopT (fun R3 s3 w => ∀ _ : Nat → Value,
  kN P (callN (.func (.func 48) #[] #[]) #[t2]) w fun v22 w =>
  condK v22
  (kV P (binV .geq 23 (.tmp 25) (.tmp 26) (s3.getD 0 undef) v19) w fun v27 w =>
  condK v27
  (J0 [] w)
  (kN P (callN (.func (.func 50) #[] #[]) #[t2, (s3.getD 1 undef)]) w fun v31 w =>
  kN P (callN (.func (.func 49) #[] #[]) #[(s3.getD 0 undef), v31]) w fun v32 w =>
  kN P (callN (.func (.func 29) #[] #[]) #[t0, v32, (.int .i64 8)]) w fun v36 w =>
  kV P (Instr.extract v36 0) w fun v37 w =>
  kV P (Instr.extract v36 1) w fun v38 w =>
  kN P (callN (.func (.func 17) #[] #[]) #[v37]) w fun v40 w =>
  kV P (Instr.alloc 32 true (.tuple #[])) w fun v15 w =>
  kU P (Instr.storeAt 32 v15 v40) w fun _ w =>
  joinL (fun J5 =>
  kV P (Instr.fieldAt 32 v15 0) w fun v42 w =>
  kV P (Instr.loadAt 4 v42) w fun v43 w =>
  kV P (Op.unary .not v43) w fun v44 w =>
  condK v44
  (J5 [v44] w)
  (kV P (Instr.loadAt 32 v15) w fun v45 w =>
  kN P (callN (.func (.func 19) #[] #[]) #[v45]) w fun v46 w =>
  kV P (Op.unary .not v46) w fun v47 w =>
  condK v47
  (J5 [v47] w)
  (kV P (Instr.loadAt 32 v15) w fun v48 w =>
  kN P (callN (.func (.func 18) #[] #[]) #[v48]) w fun v49 w =>
  kV P (binV .eql 3 (.tmp 50) (.const (.int .i64 0)) (s3.getD 1 undef) (.int .i64 0)) w fun v51 w =>
  kV P (binV .neq 4 (.tmp 49) (.tmp 51) v49 v51) w fun v52 w =>
  condK v52
  (J5 [v52] w)
  (kV P (Instr.fieldAt 32 v15 12) w fun v53 w =>
  kV P (Instr.loadAt 23 v53) w fun v54 w =>
  kV P (binV .geq 23 (.tmp 54) (.tmp 55) v54 v19) w fun v56 w =>
  J5 [v56] w)))) fun s5 w => ∀ _ : Nat → Value,
  condK (s5.getD 0 undef)
  (J0 [] w)
  (kV P (binV .eql 3 (.tmp 58) (.const (.int .i64 0)) (s3.getD 1 undef) (.int .i64 0)) w fun v59 w =>
  condK v59
  (kV P (Instr.loadAt 32 v15) w fun v60 w =>
  kV P (Instr.build 34 #[(0, v60), (1, v32)]) w fun v62 w =>
  kU P (Instr.storeAt 34 v10 v62) w fun _ w =>
  kV P (Instr.loadAt 34 v10) w fun v63 w =>
  kU P (Instr.storeAt 34 v6 v63) w fun _ w =>
  retV P 34 v6 w fun r7 =>
  K (.tuple #[r7, (.int .i64 0)]) w)
  (kV P (Instr.fieldAt 32 v15 12) w fun v64 w =>
  kV P (Instr.loadAt 23 v64) w fun v65 w =>
  kV P (binV .sub 3 (.tmp 23) (.const (.int .i64 1)) (s3.getD 1 undef) (.int .i64 1)) w fun v24 w =>
  R3 [v65, v24] w))))
  (J0 [] w)) [t1, (.int .i64 2)] w) fun s0 w => ∀ _ : Nat → Value,
  kV P (Instr.build 34 #[]) w fun v66 w =>
  kU P (Instr.storeAt 34 v6 v66) w fun _ w =>
  retV P 34 v6 w fun r2 =>
  K (.tuple #[r2, (.int .i64 1)]) w
theorem F12_eq (P : Program) (t0 t1 t2 : Value) (w : World) (K : Value → World → Prop) : funE P ⟨[], [(5, [8, 11])], [(19, []), (15, [41])]⟩ Try.f12 [t0, t1, t2] w K = F12 P t0 t1 t2 w K := by kernel_rfl
theorem F12_ok (t0 t1 t2 : Value) (w : World) (K : Value → World → Prop) (h : F12 Try.prog t0 t1 t2 w K) : callsK Try.prog 12 #[t0, t1, t2] w K := calls_of_eq mixedM Try.func12 (F12_eq _ t0 t1 t2 w K) h

/-- mintmark/mintmarkref10.Walk -/
def F13 (P : Program) (t0 t1 t2 : Value) (w : World) (K : Value → World → Prop) : Prop :=
  kV P (Instr.box 28 t0) w fun v3 w =>
  kV P (Instr.alloc 37 true (.tuple #[])) w fun v6 w =>
  kV P (binV .geq 23 (.tmp 15) (.const (.int .u64 274877906944)) t2 (.int .u64 274877906944)) w fun v16 w =>
  condK v16
  (kV P (Instr.build 37 #[]) w fun v17 w =>
  kU P (Instr.storeAt 37 v6 v17) w fun _ w =>
  retV P 37 v6 w fun r0 =>
  K (.tuple #[r0, (.int .u64 0), (.int .i64 1)]) w)
  (loopT (fun R1 s1 w => ∀ _ : Nat → Value,
  kV P (binV .geq 3 (.tmp 19) (.const (.int .i64 0)) (s1.getD 1 undef) (.int .i64 0)) w fun v20 w =>
  condK v20
  (kV P (Instr.fieldAt 28 v3 0) w fun v24 w =>
  kV P (Instr.loadAt 3 v24) w fun v25 w =>
  kV P (convert 3 23 v25) w fun v26 w =>
  kV P (binV .geq 23 (.tmp 23) (.tmp 26) (s1.getD 0 undef) v26) w fun v27 w =>
  condK v27
  (kV P (Instr.build 37 #[]) w fun v28 w =>
  kU P (Instr.storeAt 37 v6 v28) w fun _ w =>
  retV P 37 v6 w fun r3 =>
  K (.tuple #[r3, (.int .u64 0), (.int .i64 1)]) w)
  (kV P (binV .mul 23 (.tmp 29) (.const (.int .u64 4096)) (s1.getD 0 undef) (.int .u64 4096)) w fun v30 w =>
  kN P (callN (.func (.func 51) #[] #[]) #[t2, (s1.getD 1 undef)]) w fun v33 w =>
  kV P (convert 3 23 v33) w fun v34 w =>
  kV P (binV .mul 23 (.const (.int .u64 8)) (.tmp 34) (.int .u64 8) v34) w fun v35 w =>
  kV P (binV .add 23 (.tmp 30) (.tmp 35) v30 v35) w fun v36 w =>
  kV P (Instr.loadAt 28 v3) w fun v38 w =>
  kN P (callN (.func (.func 44) #[] #[]) #[v38, v36, (.int .i64 8)]) w fun v40 w =>
  kV P (Instr.extract v40 0) w fun v41 w =>
  kV P (Instr.extract v40 1) w fun v42 w =>
  kN P (callN (.func (.func 52) #[] #[]) #[v41]) w fun v44 w =>
  kV P (Instr.alloc 37 true (.tuple #[])) w fun v14 w =>
  kU P (Instr.storeAt 37 v14 v44) w fun _ w =>
  kV P (Instr.fieldAt 37 v14 0) w fun v45 w =>
  kV P (Instr.loadAt 4 v45) w fun v46 w =>
  kV P (Op.unary .not v46) w fun v47 w =>
  joinK (fun J4 : Value → World → Prop => gdK (yb v47) false (fun k => kV P (Instr.loadAt 37 v14) w k) w fun v49 w =>
  gdK (yb v47) false (fun k => kN P (callN (.func (.func 53) #[] #[]) #[v49]) w k) w fun v50 w =>
  gdK (yb v47) false (fun k => kV P (Op.unary .not v50) w k) w fun v51 w =>
  kN P (pickN v47 (.bool true) v51) w fun v52_1 w =>
  J4 v52_1 w) fun v52 w =>
  joinK (fun J5 : Value → World → Prop => gdK (yb v52) false (fun k => kV P (Instr.loadAt 37 v14) w k) w fun v54 w =>
  gdK (yb v52) false (fun k => kN P (callN (.func (.func 54) #[] #[]) #[v54]) w k) w fun v55 w =>
  gdK (yb v52) false (fun k => k (s1.getD 1 undef) w) w fun v56 w =>
  gdK (yb v52) false (fun k => kV P (binV .eql 3 (.tmp 56) (.const (.int .i64 0)) v56 (.int .i64 0)) w k) w fun v57 w =>
  gdK (yb v52) false (fun k => kV P (binV .neq 4 (.tmp 55) (.tmp 57) v55 v57) w k) w fun v58 w =>
  kN P (pickN v52 (.bool true) v58) w fun v59_1 w =>
  J5 v59_1 w) fun v59 w =>
  joinK (fun J6 : Value → World → Prop => gdK (yb v59) false (fun k => kV P (Instr.fieldAt 37 v14 12) w k) w fun v61 w =>
  gdK (yb v59) false (fun k => kV P (Instr.loadAt 23 v61) w k) w fun v62 w =>
  gdK (yb v59) false (fun k => kV P (Instr.fieldAt 28 v3 0) w k) w fun v63 w =>
  gdK (yb v59) false (fun k => kV P (Instr.loadAt 3 v63) w k) w fun v64 w =>
  gdK (yb v59) false (fun k => kV P (convert 3 23 v64) w k) w fun v65 w =>
  gdK (yb v59) false (fun k => kV P (binV .geq 23 (.tmp 62) (.tmp 65) v62 v65) w k) w fun v66 w =>
  kN P (pickN v59 (.bool true) v66) w fun v67_1 w =>
  J6 v67_1 w) fun v67 w =>
  condK v67
  (kV P (Instr.build 37 #[]) w fun v68 w =>
  kU P (Instr.storeAt 37 v6 v68) w fun _ w =>
  retV P 37 v6 w fun r7 =>
  K (.tuple #[r7, (.int .u64 0), (.int .i64 1)]) w)
  (kV P (binV .eql 3 (.tmp 69) (.const (.int .i64 0)) (s1.getD 1 undef) (.int .i64 0)) w fun v70 w =>
  condK v70
  (kV P (Instr.loadAt 37 v14) w fun v71 w =>
  kU P (Instr.storeAt 37 v6 v71) w fun _ w =>
  retV P 37 v6 w fun r8 =>
  K (.tuple #[r8, v36, (.int .i64 0)]) w)
  (kV P (Instr.fieldAt 37 v14 12) w fun v73 w =>
  kV P (Instr.loadAt 23 v73) w fun v74 w =>
  kV P (binV .sub 3 (.tmp 21) (.const (.int .i64 1)) (s1.getD 1 undef) (.int .i64 1)) w fun v22 w =>
  R1 [v74, v22] w))))
  (kV P (Instr.build 37 #[]) w fun v75 w =>
  kU P (Instr.storeAt 37 v6 v75) w fun _ w =>
  retV P 37 v6 w fun r9 =>
  K (.tuple #[r9, (.int .u64 0), (.int .i64 1)]) w)) [t1, (.int .i64 2)] w)
theorem F13_eq (P : Program) (t0 t1 t2 : Value) (w : World) (K : Value → World → Prop) : funE P ⟨[], [(5, [9, 10])], []⟩ Try.f13 [t0, t1, t2] w K = F13 P t0 t1 t2 w K := by kernel_rfl
theorem F13_ok (t0 t1 t2 : Value) (w : World) (K : Value → World → Prop) (h : F13 Try.prog t0 t1 t2 w K) : callsK Try.prog 13 #[t0, t1, t2] w K := calls_of_eq mixedM Try.func13 (F13_eq _ t0 t1 t2 w K) h

/-- (*mintmark/ram.Ram).Store -/
def F15 (P : Program) (t0 t1 t2 t3 : Value) (w : World) (K : Value → World → Prop) : Prop :=
  kV P (Instr.box 23 t3) w fun v7 w =>
  kN P (callN (.func (.func 55) #[] #[]) #[t2]) w fun v16 w =>
  kV P (Instr.extract v16 0) w fun v17 w =>
  kV P (Instr.extract v16 1) w fun v18 w =>
  kN P (callN (.func (.func 56) #[] #[]) #[t0, t1, v17]) w fun v23 w =>
  kV P (Instr.extract v23 0) w fun v24 w =>
  kV P (Instr.extract v23 1) w fun v25 w =>
  kV P (Instr.extract v23 2) w fun v26 w =>
  kV P (Instr.alloc 121 true (.tuple #[])) w fun v11 w =>
  kV P (Instr.alloc 3 true (.tuple #[])) w fun v12 w =>
  kU P (Instr.storeAt 121 v11 v24) w fun _ w =>
  kU P (Instr.storeAt 3 v12 v25) w fun _ w =>
  joinL (fun J0 =>
  kV P (binV .eql 45 (.tmp 27) (.const (.int .i64 0)) v26 (.int .i64 0)) w fun v28 w =>
  joinK (fun J4 : Value → World → Prop => gdK (yb v28) true (fun k => k v18 w) w fun v30 w =>
  gdK (yb v28) true (fun k => kV P (Op.unary .not v30) w k) w fun v31 w =>
  kN P (pickN v28 v31 (.bool false)) w fun v32_1 w =>
  J4 v32_1 w) fun v32 w =>
  condK v32
  (J0 [(.int .i64 2)] w)
  (J0 [v26] w)) fun s0 w => ∀ _ : Nat → Value,
  kV P (binV .neq 45 (.tmp 33) (.const (.int .i64 0)) (s0.getD 0 undef) (.int .i64 0)) w fun v34 w =>
  condK v34
  (K (s0.getD 0 undef) w)
  (kN P (callN (.func (.func 57) #[] #[]) #[t2, (.func (.func 58) #[] #[v7, v11, v12])]) w fun v38 w =>
  joinL (fun J2 =>
  drewK (fun w =>
  (kV P (Instr.loadAt 121 v11) w fun v39 w =>
  (kV P (Instr.loadAt 121 v11) w fun v40 w =>
  pN P (nilN v40) fun v41 =>
  pV P (Instr.fieldAt 129 v41 1) fun v42 =>
  (kV P (Instr.loadAt 127 v42) w fun v43 w =>
  kV P (Instr.loadAt 3 v12) w fun v44 w =>
  kN P (callN (.func (.func 60) #[] #[]) #[v44, t2]) w fun v46 w =>
  kN P (callN (.func (.func 59) #[] #[]) #[v43, v46]) w fun v47 w =>
  pN P (nilN v39) fun v48 =>
  pV P (Instr.fieldAt 129 v48 1) fun v49 =>
  kU P (Instr.storeAt 127 v49 v47) w fun _ w =>
  J2 [] w) ∧
  (kV P (Instr.loadAt 3 v12) w fun v44_1 w =>
  (kV P (Instr.loadAt 127 v42) w fun v43_1 w =>
  kN P (callN (.func (.func 60) #[] #[]) #[v44_1, t2]) w fun v46_1 w =>
  kN P (callN (.func (.func 59) #[] #[]) #[v43_1, v46_1]) w fun v47_1 w =>
  pN P (nilN v39) fun v48_1 =>
  pV P (Instr.fieldAt 129 v48_1 1) fun v49_1 =>
  kU P (Instr.storeAt 127 v49_1 v47_1) w fun _ w =>
  J2 [] w) ∧
  (kN P (callN (.func (.func 60) #[] #[]) #[v44_1, t2]) w fun v46_2 w =>
  kV P (Instr.loadAt 127 v42) w fun v43_2 w =>
  kN P (callN (.func (.func 59) #[] #[]) #[v43_2, v46_2]) w fun v47_2 w =>
  pN P (nilN v39) fun v48_2 =>
  pV P (Instr.fieldAt 129 v48_2 1) fun v49_2 =>
  kU P (Instr.storeAt 127 v49_2 v47_2) w fun _ w =>
  J2 [] w))) ∧
  (kV P (Instr.loadAt 3 v12) w fun v44_2 w =>
  (kV P (Instr.loadAt 121 v11) w fun v40_1 w =>
  pN P (nilN v40_1) fun v41_1 =>
  pV P (Instr.fieldAt 129 v41_1 1) fun v42_1 =>
  (kV P (Instr.loadAt 127 v42_1) w fun v43_3 w =>
  kN P (callN (.func (.func 60) #[] #[]) #[v44_2, t2]) w fun v46_3 w =>
  kN P (callN (.func (.func 59) #[] #[]) #[v43_3, v46_3]) w fun v47_3 w =>
  pN P (nilN v39) fun v48_3 =>
  pV P (Instr.fieldAt 129 v48_3 1) fun v49_3 =>
  kU P (Instr.storeAt 127 v49_3 v47_3) w fun _ w =>
  J2 [] w) ∧
  (kN P (callN (.func (.func 60) #[] #[]) #[v44_2, t2]) w fun v46_4 w =>
  kV P (Instr.loadAt 127 v42_1) w fun v43_4 w =>
  kN P (callN (.func (.func 59) #[] #[]) #[v43_4, v46_4]) w fun v47_4 w =>
  pN P (nilN v39) fun v48_4 =>
  pV P (Instr.fieldAt 129 v48_4 1) fun v49_4 =>
  kU P (Instr.storeAt 127 v49_4 v47_4) w fun _ w =>
  J2 [] w)) ∧
  (kN P (callN (.func (.func 60) #[] #[]) #[v44_2, t2]) w fun v46_5 w =>
  kV P (Instr.loadAt 121 v11) w fun v40_2 w =>
  pN P (nilN v40_2) fun v41_2 =>
  pV P (Instr.fieldAt 129 v41_2 1) fun v42_2 =>
  kV P (Instr.loadAt 127 v42_2) w fun v43_5 w =>
  kN P (callN (.func (.func 59) #[] #[]) #[v43_5, v46_5]) w fun v47_5 w =>
  pN P (nilN v39) fun v48_5 =>
  pV P (Instr.fieldAt 129 v48_5 1) fun v49_5 =>
  kU P (Instr.storeAt 127 v49_5 v47_5) w fun _ w =>
  J2 [] w))) ∧
  (kV P (Instr.loadAt 121 v11) w fun v40_3 w =>
  pN P (nilN v40_3) fun v41_3 =>
  pV P (Instr.fieldAt 129 v41_3 1) fun v42_3 =>
  (kV P (Instr.loadAt 121 v11) w fun v39_1 w =>
  (kV P (Instr.loadAt 127 v42_3) w fun v43_6 w =>
  kV P (Instr.loadAt 3 v12) w fun v44_3 w =>
  kN P (callN (.func (.func 60) #[] #[]) #[v44_3, t2]) w fun v46_6 w =>
  kN P (callN (.func (.func 59) #[] #[]) #[v43_6, v46_6]) w fun v47_6 w =>
  pN P (nilN v39_1) fun v48_6 =>
  pV P (Instr.fieldAt 129 v48_6 1) fun v49_6 =>
  kU P (Instr.storeAt 127 v49_6 v47_6) w fun _ w =>
  J2 [] w) ∧
  (kV P (Instr.loadAt 3 v12) w fun v44_4 w =>
  (kV P (Instr.loadAt 127 v42_3) w fun v43_7 w =>
  kN P (callN (.func (.func 60) #[] #[]) #[v44_4, t2]) w fun v46_7 w =>
  kN P (callN (.func (.func 59) #[] #[]) #[v43_7, v46_7]) w fun v47_7 w =>
  pN P (nilN v39_1) fun v48_7 =>
  pV P (Instr.fieldAt 129 v48_7 1) fun v49_7 =>
  kU P (Instr.storeAt 127 v49_7 v47_7) w fun _ w =>
  J2 [] w) ∧
  (kN P (callN (.func (.func 60) #[] #[]) #[v44_4, t2]) w fun v46_8 w =>
  kV P (Instr.loadAt 127 v42_3) w fun v43_8 w =>
  kN P (callN (.func (.func 59) #[] #[]) #[v43_8, v46_8]) w fun v47_8 w =>
  pN P (nilN v39_1) fun v48_8 =>
  pV P (Instr.fieldAt 129 v48_8 1) fun v49_8 =>
  kU P (Instr.storeAt 127 v49_8 v47_8) w fun _ w =>
  J2 [] w))) ∧
  (kV P (Instr.loadAt 127 v42_3) w fun v43_9 w =>
  (kV P (Instr.loadAt 121 v11) w fun v39_2 w =>
  kV P (Instr.loadAt 3 v12) w fun v44_5 w =>
  kN P (callN (.func (.func 60) #[] #[]) #[v44_5, t2]) w fun v46_9 w =>
  kN P (callN (.func (.func 59) #[] #[]) #[v43_9, v46_9]) w fun v47_9 w =>
  pN P (nilN v39_2) fun v48_9 =>
  pV P (Instr.fieldAt 129 v48_9 1) fun v49_9 =>
  kU P (Instr.storeAt 127 v49_9 v47_9) w fun _ w =>
  J2 [] w) ∧
  (kV P (Instr.loadAt 3 v12) w fun v44_6 w =>
  (kV P (Instr.loadAt 121 v11) w fun v39_3 w =>
  kN P (callN (.func (.func 60) #[] #[]) #[v44_6, t2]) w fun v46_10 w =>
  kN P (callN (.func (.func 59) #[] #[]) #[v43_9, v46_10]) w fun v47_10 w =>
  pN P (nilN v39_3) fun v48_10 =>
  pV P (Instr.fieldAt 129 v48_10 1) fun v49_10 =>
  kU P (Instr.storeAt 127 v49_10 v47_10) w fun _ w =>
  J2 [] w) ∧
  (kN P (callN (.func (.func 60) #[] #[]) #[v44_6, t2]) w fun v46_11 w =>
  (kV P (Instr.loadAt 121 v11) w fun v39_4 w =>
  kN P (callN (.func (.func 59) #[] #[]) #[v43_9, v46_11]) w fun v47_11 w =>
  pN P (nilN v39_4) fun v48_11 =>
  pV P (Instr.fieldAt 129 v48_11 1) fun v49_11 =>
  kU P (Instr.storeAt 127 v49_11 v47_11) w fun _ w =>
  J2 [] w) ∧
  (kN P (callN (.func (.func 59) #[] #[]) #[v43_9, v46_11]) w fun v47_12 w =>
  kV P (Instr.loadAt 121 v11) w fun v39_5 w =>
  pN P (nilN v39_5) fun v48_12 =>
  pV P (Instr.fieldAt 129 v48_12 1) fun v49_12 =>
  kU P (Instr.storeAt 127 v49_12 v47_12) w fun _ w =>
  J2 [] w)))) ∧
  (kV P (Instr.loadAt 3 v12) w fun v44_7 w =>
  (kV P (Instr.loadAt 121 v11) w fun v39_6 w =>
  (kV P (Instr.loadAt 127 v42_3) w fun v43_10 w =>
  kN P (callN (.func (.func 60) #[] #[]) #[v44_7, t2]) w fun v46_12 w =>
  kN P (callN (.func (.func 59) #[] #[]) #[v43_10, v46_12]) w fun v47_13 w =>
  pN P (nilN v39_6) fun v48_13 =>
  pV P (Instr.fieldAt 129 v48_13 1) fun v49_13 =>
  kU P (Instr.storeAt 127 v49_13 v47_13) w fun _ w =>
  J2 [] w) ∧
  (kN P (callN (.func (.func 60) #[] #[]) #[v44_7, t2]) w fun v46_13 w =>
  kV P (Instr.loadAt 127 v42_3) w fun v43_11 w =>
  kN P (callN (.func (.func 59) #[] #[]) #[v43_11, v46_13]) w fun v47_14 w =>
  pN P (nilN v39_6) fun v48_14 =>
  pV P (Instr.fieldAt 129 v48_14 1) fun v49_14 =>
  kU P (Instr.storeAt 127 v49_14 v47_14) w fun _ w =>
  J2 [] w)) ∧
  (kV P (Instr.loadAt 127 v42_3) w fun v43_12 w =>
  (kV P (Instr.loadAt 121 v11) w fun v39_7 w =>
  kN P (callN (.func (.func 60) #[] #[]) #[v44_7, t2]) w fun v46_14 w =>
  kN P (callN (.func (.func 59) #[] #[]) #[v43_12, v46_14]) w fun v47_15 w =>
  pN P (nilN v39_7) fun v48_15 =>
  pV P (Instr.fieldAt 129 v48_15 1) fun v49_15 =>
  kU P (Instr.storeAt 127 v49_15 v47_15) w fun _ w =>
  J2 [] w) ∧
  (kN P (callN (.func (.func 60) #[] #[]) #[v44_7, t2]) w fun v46_15 w =>
  (kV P (Instr.loadAt 121 v11) w fun v39_8 w =>
  kN P (callN (.func (.func 59) #[] #[]) #[v43_12, v46_15]) w fun v47_16 w =>
  pN P (nilN v39_8) fun v48_16 =>
  pV P (Instr.fieldAt 129 v48_16 1) fun v49_16 =>
  kU P (Instr.storeAt 127 v49_16 v47_16) w fun _ w =>
  J2 [] w) ∧
  (kN P (callN (.func (.func 59) #[] #[]) #[v43_12, v46_15]) w fun v47_17 w =>
  kV P (Instr.loadAt 121 v11) w fun v39_9 w =>
  pN P (nilN v39_9) fun v48_17 =>
  pV P (Instr.fieldAt 129 v48_17 1) fun v49_17 =>
  kU P (Instr.storeAt 127 v49_17 v47_17) w fun _ w =>
  J2 [] w))) ∧
  (kN P (callN (.func (.func 60) #[] #[]) #[v44_7, t2]) w fun v46_16 w =>
  (kV P (Instr.loadAt 121 v11) w fun v39_10 w =>
  kV P (Instr.loadAt 127 v42_3) w fun v43_13 w =>
  kN P (callN (.func (.func 59) #[] #[]) #[v43_13, v46_16]) w fun v47_18 w =>
  pN P (nilN v39_10) fun v48_18 =>
  pV P (Instr.fieldAt 129 v48_18 1) fun v49_18 =>
  kU P (Instr.storeAt 127 v49_18 v47_18) w fun _ w =>
  J2 [] w) ∧
  (kV P (Instr.loadAt 127 v42_3) w fun v43_14 w =>
  (kV P (Instr.loadAt 121 v11) w fun v39_11 w =>
  kN P (callN (.func (.func 59) #[] #[]) #[v43_14, v46_16]) w fun v47_19 w =>
  pN P (nilN v39_11) fun v48_19 =>
  pV P (Instr.fieldAt 129 v48_19 1) fun v49_19 =>
  kU P (Instr.storeAt 127 v49_19 v47_19) w fun _ w =>
  J2 [] w) ∧
  (kN P (callN (.func (.func 59) #[] #[]) #[v43_14, v46_16]) w fun v47_20 w =>
  kV P (Instr.loadAt 121 v11) w fun v39_12 w =>
  pN P (nilN v39_12) fun v48_20 =>
  pV P (Instr.fieldAt 129 v48_20 1) fun v49_20 =>
  kU P (Instr.storeAt 127 v49_20 v47_20) w fun _ w =>
  J2 [] w))))) ∧
  (kV P (Instr.loadAt 3 v12) w fun v44_8 w =>
  (kV P (Instr.loadAt 121 v11) w fun v39_13 w =>
  (kV P (Instr.loadAt 121 v11) w fun v40_4 w =>
  pN P (nilN v40_4) fun v41_4 =>
  pV P (Instr.fieldAt 129 v41_4 1) fun v42_4 =>
  (kV P (Instr.loadAt 127 v42_4) w fun v43_15 w =>
  kN P (callN (.func (.func 60) #[] #[]) #[v44_8, t2]) w fun v46_17 w =>
  kN P (callN (.func (.func 59) #[] #[]) #[v43_15, v46_17]) w fun v47_21 w =>
  pN P (nilN v39_13) fun v48_21 =>
  pV P (Instr.fieldAt 129 v48_21 1) fun v49_21 =>
  kU P (Instr.storeAt 127 v49_21 v47_21) w fun _ w =>
  J2 [] w) ∧
  (kN P (callN (.func (.func 60) #[] #[]) #[v44_8, t2]) w fun v46_18 w =>
  kV P (Instr.loadAt 127 v42_4) w fun v43_16 w =>
  kN P (callN (.func (.func 59) #[] #[]) #[v43_16, v46_18]) w fun v47_22 w =>
  pN P (nilN v39_13) fun v48_22 =>
  pV P (Instr.fieldAt 129 v48_22 1) fun v49_22 =>
  kU P (Instr.storeAt 127 v49_22 v47_22) w fun _ w =>
  J2 [] w)) ∧
  (kN P (callN (.func (.func 60) #[] #[]) #[v44_8, t2]) w fun v46_19 w =>
  kV P (Instr.loadAt 121 v11) w fun v40_5 w =>
  pN P (nilN v40_5) fun v41_5 =>
  pV P (Instr.fieldAt 129 v41_5 1) fun v42_5 =>
  kV P (Instr.loadAt 127 v42_5) w fun v43_17 w =>
  kN P (callN (.func (.func 59) #[] #[]) #[v43_17, v46_19]) w fun v47_23 w =>
  pN P (nilN v39_13) fun v48_23 =>
  pV P (Instr.fieldAt 129 v48_23 1) fun v49_23 =>
  kU P (Instr.storeAt 127 v49_23 v47_23) w fun _ w =>
  J2 [] w)) ∧
  (kV P (Instr.loadAt 121 v11) w fun v40_6 w =>
  pN P (nilN v40_6) fun v41_6 =>
  pV P (Instr.fieldAt 129 v41_6 1) fun v42_6 =>
  (kV P (Instr.loadAt 121 v11) w fun v39_14 w =>
  (kV P (Instr.loadAt 127 v42_6) w fun v43_18 w =>
  kN P (callN (.func (.func 60) #[] #[]) #[v44_8, t2]) w fun v46_20 w =>
  kN P (callN (.func (.func 59) #[] #[]) #[v43_18, v46_20]) w fun v47_24 w =>
  pN P (nilN v39_14) fun v48_24 =>
  pV P (Instr.fieldAt 129 v48_24 1) fun v49_24 =>
  kU P (Instr.storeAt 127 v49_24 v47_24) w fun _ w =>
  J2 [] w) ∧
  (kN P (callN (.func (.func 60) #[] #[]) #[v44_8, t2]) w fun v46_21 w =>
  kV P (Instr.loadAt 127 v42_6) w fun v43_19 w =>
  kN P (callN (.func (.func 59) #[] #[]) #[v43_19, v46_21]) w fun v47_25 w =>
  pN P (nilN v39_14) fun v48_25 =>
  pV P (Instr.fieldAt 129 v48_25 1) fun v49_25 =>
  kU P (Instr.storeAt 127 v49_25 v47_25) w fun _ w =>
  J2 [] w)) ∧
  (kV P (Instr.loadAt 127 v42_6) w fun v43_20 w =>
  (kV P (Instr.loadAt 121 v11) w fun v39_15 w =>
  kN P (callN (.func (.func 60) #[] #[]) #[v44_8, t2]) w fun v46_22 w =>
  kN P (callN (.func (.func 59) #[] #[]) #[v43_20, v46_22]) w fun v47_26 w =>
  pN P (nilN v39_15) fun v48_26 =>
  pV P (Instr.fieldAt 129 v48_26 1) fun v49_26 =>
  kU P (Instr.storeAt 127 v49_26 v47_26) w fun _ w =>
  J2 [] w) ∧
  (kN P (callN (.func (.func 60) #[] #[]) #[v44_8, t2]) w fun v46_23 w =>
  (kV P (Instr.loadAt 121 v11) w fun v39_16 w =>
  kN P (callN (.func (.func 59) #[] #[]) #[v43_20, v46_23]) w fun v47_27 w =>
  pN P (nilN v39_16) fun v48_27 =>
  pV P (Instr.fieldAt 129 v48_27 1) fun v49_27 =>
  kU P (Instr.storeAt 127 v49_27 v47_27) w fun _ w =>
  J2 [] w) ∧
  (kN P (callN (.func (.func 59) #[] #[]) #[v43_20, v46_23]) w fun v47_28 w =>
  kV P (Instr.loadAt 121 v11) w fun v39_17 w =>
  pN P (nilN v39_17) fun v48_28 =>
  pV P (Instr.fieldAt 129 v48_28 1) fun v49_28 =>
  kU P (Instr.storeAt 127 v49_28 v47_28) w fun _ w =>
  J2 [] w))) ∧
  (kN P (callN (.func (.func 60) #[] #[]) #[v44_8, t2]) w fun v46_24 w =>
  (kV P (Instr.loadAt 121 v11) w fun v39_18 w =>
  kV P (Instr.loadAt 127 v42_6) w fun v43_21 w =>
  kN P (callN (.func (.func 59) #[] #[]) #[v43_21, v46_24]) w fun v47_29 w =>
  pN P (nilN v39_18) fun v48_29 =>
  pV P (Instr.fieldAt 129 v48_29 1) fun v49_29 =>
  kU P (Instr.storeAt 127 v49_29 v47_29) w fun _ w =>
  J2 [] w) ∧
  (kV P (Instr.loadAt 127 v42_6) w fun v43_22 w =>
  (kV P (Instr.loadAt 121 v11) w fun v39_19 w =>
  kN P (callN (.func (.func 59) #[] #[]) #[v43_22, v46_24]) w fun v47_30 w =>
  pN P (nilN v39_19) fun v48_30 =>
  pV P (Instr.fieldAt 129 v48_30 1) fun v49_30 =>
  kU P (Instr.storeAt 127 v49_30 v47_30) w fun _ w =>
  J2 [] w) ∧
  (kN P (callN (.func (.func 59) #[] #[]) #[v43_22, v46_24]) w fun v47_31 w =>
  kV P (Instr.loadAt 121 v11) w fun v39_20 w =>
  pN P (nilN v39_20) fun v48_31 =>
  pV P (Instr.fieldAt 129 v48_31 1) fun v49_31 =>
  kU P (Instr.storeAt 127 v49_31 v47_31) w fun _ w =>
  J2 [] w)))) ∧
  (kN P (callN (.func (.func 60) #[] #[]) #[v44_8, t2]) w fun v46_25 w =>
  (kV P (Instr.loadAt 121 v11) w fun v39_21 w =>
  kV P (Instr.loadAt 121 v11) w fun v40_7 w =>
  pN P (nilN v40_7) fun v41_7 =>
  pV P (Instr.fieldAt 129 v41_7 1) fun v42_7 =>
  kV P (Instr.loadAt 127 v42_7) w fun v43_23 w =>
  kN P (callN (.func (.func 59) #[] #[]) #[v43_23, v46_25]) w fun v47_32 w =>
  pN P (nilN v39_21) fun v48_32 =>
  pV P (Instr.fieldAt 129 v48_32 1) fun v49_32 =>
  kU P (Instr.storeAt 127 v49_32 v47_32) w fun _ w =>
  J2 [] w) ∧
  (kV P (Instr.loadAt 121 v11) w fun v40_8 w =>
  pN P (nilN v40_8) fun v41_8 =>
  pV P (Instr.fieldAt 129 v41_8 1) fun v42_8 =>
  (kV P (Instr.loadAt 121 v11) w fun v39_22 w =>
  kV P (Instr.loadAt 127 v42_8) w fun v43_24 w =>
  kN P (callN (.func (.func 59) #[] #[]) #[v43_24, v46_25]) w fun v47_33 w =>
  pN P (nilN v39_22) fun v48_33 =>
  pV P (Instr.fieldAt 129 v48_33 1) fun v49_33 =>
  kU P (Instr.storeAt 127 v49_33 v47_33) w fun _ w =>
  J2 [] w) ∧
  (kV P (Instr.loadAt 127 v42_8) w fun v43_25 w =>
  (kV P (Instr.loadAt 121 v11) w fun v39_23 w =>
  kN P (callN (.func (.func 59) #[] #[]) #[v43_25, v46_25]) w fun v47_34 w =>
  pN P (nilN v39_23) fun v48_34 =>
  pV P (Instr.fieldAt 129 v48_34 1) fun v49_34 =>
  kU P (Instr.storeAt 127 v49_34 v47_34) w fun _ w =>
  J2 [] w) ∧
  (kN P (callN (.func (.func 59) #[] #[]) #[v43_25, v46_25]) w fun v47_35 w =>
  kV P (Instr.loadAt 121 v11) w fun v39_24 w =>
  pN P (nilN v39_24) fun v48_35 =>
  pV P (Instr.fieldAt 129 v48_35 1) fun v49_35 =>
  kU P (Instr.storeAt 127 v49_35 v47_35) w fun _ w =>
  J2 [] w)))))) w) fun s2 w => ∀ _ : Nat → Value,
  K (.int .i64 0) w)
theorem F15_eq (P : Program) (t0 t1 t2 t3 : Value) (w : World) (K : Value → World → Prop) : funE P ⟨[(8, 999)], [], [(5, [13]), (9, [])]⟩ Try.f15 [t0, t1, t2, t3] w K = F15 P t0 t1 t2 t3 w K := by kernel_rfl
theorem F15_ok (t0 t1 t2 t3 : Value) (w : World) (K : Value → World → Prop) (h : F15 Try.prog t0 t1 t2 t3 w K) : callsK Try.prog 15 #[t0, t1, t2, t3] w K := calls_of_eq mixedM Try.func15 (F15_eq _ t0 t1 t2 t3 w K) h

/-- mintmark/pte.Word -/
def F16 (P : Program) (t0 : Value) (w : World) (K : Value → World → Prop) : Prop :=
  kV P (Instr.box 32 t0) w fun v1 w =>
  kV P (Instr.fieldAt 32 v1 12) w fun v7 w =>
  kV P (Instr.loadAt 23 v7) w fun v8 w =>
  kN P (callN (.func (.func 61) #[] #[]) #[(.int .u64 0), (.int .i64 10), (.int .i64 44), v8]) w fun v9 w =>
  kN P (callN (.func (.func 62) #[] #[]) #[v1]) w fun v10 w =>
  kV P (Instr.alloc 134 true (.tuple #[])) w fun v4 w =>
  kU P (Instr.storeAt 134 v4 v10) w fun _ w =>
  kN P (callN (.func (.func 63) #[] #[]) #[]) w fun v11 w =>
  loopT (fun R0 s0 w => ∀ _ : Nat → Value,
  kV P (binV .lss 3 (.tmp 12) (.const (.int .i64 12)) (s0.getD 1 undef) (.int .i64 12)) w fun v13 w =>
  condK v13
  (joinL (fun J2 =>
  kV P (Instr.index 136 v11 (s0.getD 1 undef)) w fun v15 w =>
  kV P (Instr.indexAt 134 v4 (s0.getD 1 undef)) w fun v17 w =>
  kV P (Instr.loadAt 133 v17) w fun v18 w =>
  kN P (nilN v18) w fun v19 w =>
  kV P (Instr.loadAt 4 v19) w fun v20 w =>
  condK v20
  (kV P (binV .shl 23 (.const (.int .u64 1)) (.tmp 22) (.int .u64 1) v15) w fun v23 w =>
  kV P (binV .or 23 (.tmp 21) (.tmp 23) (s0.getD 0 undef) v23) w fun v24 w =>
  J2 [v24] w)
  (J2 [(s0.getD 0 undef)] w)) fun s2 w => ∀ _ : Nat → Value,
  kV P (binV .add 3 (.tmp 12) (.const (.int .i64 1)) (s0.getD 1 undef) (.int .i64 1)) w fun v25 w =>
  R0 [(s2.getD 0 undef), v25] w)
  (K (s0.getD 0 undef) w)) [v9, (.int .i64 0)] w
theorem F16_eq (P : Program) (t0 : Value) (w : World) (K : Value → World → Prop) : funE P ⟨[], [(4, [3, 12])], [(8, [3])]⟩ Try.f16 [t0] w K = F16 P t0 w K := by kernel_rfl
theorem F16_ok (t0 : Value) (w : World) (K : Value → World → Prop) (h : F16 Try.prog t0 w K) : callsK Try.prog 16 #[t0] w K := calls_of_eq mixedM Try.func16 (F16_eq _ t0 w K) h

/-- mintmark/pte.Of -/
def F17 (P : Program) (t0 : Value) (w : World) (K : Value → World → Prop) : Prop :=
  kV P (Instr.alloc 32 true (.tuple #[])) w fun v2 w =>
  kN P (callN (.func (.func 64) #[] #[]) #[t0, (.int .i64 10), (.int .i64 44)]) w fun v8 w =>
  kV P (Instr.build 32 #[(12, v8)]) w fun v9 w =>
  kV P (Instr.alloc 32 true (.tuple #[])) w fun v3 w =>
  kU P (Instr.storeAt 32 v3 v9) w fun _ w =>
  kN P (callN (.func (.func 62) #[] #[]) #[v3]) w fun v10 w =>
  kV P (Instr.alloc 134 true (.tuple #[])) w fun v4 w =>
  kU P (Instr.storeAt 134 v4 v10) w fun _ w =>
  kN P (callN (.func (.func 63) #[] #[]) #[]) w fun v11 w =>
  loopT (fun R0 s0 w => ∀ _ : Nat → Value,
  kV P (binV .lss 3 (.tmp 12) (.const (.int .i64 12)) (s0.getD 0 undef) (.int .i64 12)) w fun v13 w =>
  condK v13
  (kV P (Instr.index 136 v11 (s0.getD 0 undef)) w fun v15 w =>
  drewK (fun w =>
  sV P (Instr.indexAt 134 v4 (s0.getD 0 undef)) w fun v17 =>
  sV P (Instr.loadAt 133 v17) w fun v18 =>
  sV P (binV .shr 23 (.tmp 19) (.tmp 20) t0 v15) w fun v21 =>
  sV P (binV .and 23 (.tmp 21) (.const (.int .u64 1)) v21 (.int .u64 1)) w fun v22 =>
  sV P (binV .neq 23 (.tmp 22) (.const (.int .u64 0)) v22 (.int .u64 0)) w fun v23 =>
  kN P (nilN v18) w fun v24 w =>
  kU P (Instr.storeAt 4 v24 v23) w fun _ w =>
  kV P (binV .add 3 (.tmp 12) (.const (.int .i64 1)) (s0.getD 0 undef) (.int .i64 1)) w fun v25 w =>
  R0 [v25] w) w)
  (kV P (Instr.loadAt 32 v3) w fun v26 w =>
  kU P (Instr.storeAt 32 v2 v26) w fun _ w =>
  retV P 32 v2 w fun r2 =>
  K r2 w)) [(.int .i64 0)] w
theorem F17_eq (P : Program) (t0 : Value) (w : World) (K : Value → World → Prop) : funE P ⟨[(6, 8)], [(4, [12])], []⟩ Try.f17 [t0] w K = F17 P t0 w K := by kernel_rfl
theorem F17_ok (t0 : Value) (w : World) (K : Value → World → Prop) (h : F17 Try.prog t0 w K) : callsK Try.prog 17 #[t0] w K := calls_of_eq mixedM Try.func17 (F17_eq _ t0 w K) h

/-- mintmark/pte.Leaf -/
def F18 (P : Program) (t0 : Value) (w : World) (K : Value → World → Prop) : Prop :=
  kV P (Instr.box 32 t0) w fun v1 w =>
  kV P (Instr.fieldAt 32 v1 0) w fun v3 w =>
  kV P (Instr.loadAt 4 v3) w fun v4 w =>
  joinK (fun J0 : Value → World → Prop => gdK (yb v4) true (fun k => kV P (Instr.fieldAt 32 v1 1) w k) w fun v6 w =>
  gdK (yb v4) true (fun k => kV P (Instr.loadAt 4 v6) w k) w fun v7 w =>
  gdK (yb v4) true (fun k => k v7 w) w fun v8 w =>
  gdK (yb v8) false (fun k => kV P (Instr.fieldAt 32 v1 2) w k) w fun v9 w =>
  gdK (yb v8) false (fun k => kV P (Instr.loadAt 4 v9) w k) w fun v10 w =>
  gdK (yb v4) true (fun k => kN P (pickN v8 (.bool true) v10) w k) w fun v11 w =>
  gdK (yb v4) true (fun k => k v11 w) w fun v12 w =>
  gdK (yb v12) false (fun k => kV P (Instr.fieldAt 32 v1 3) w k) w fun v13 w =>
  gdK (yb v12) false (fun k => kV P (Instr.loadAt 4 v13) w k) w fun v14 w =>
  gdK (yb v4) true (fun k => kN P (pickN v12 (.bool true) v14) w k) w fun v15 w =>
  kN P (pickN v4 v15 (.bool false)) w fun v16_1 w =>
  J0 v16_1 w) fun v16 w =>
  K v16 w
theorem F18_eq (P : Program) (t0 : Value) (w : World) (K : Value → World → Prop) : funE P ⟨[], [], []⟩ Try.f18 [t0] w K = F18 P t0 w K := by kernel_rfl
theorem F18_ok (t0 : Value) (w : World) (K : Value → World → Prop) (h : F18 Try.prog t0 w K) : callsK Try.prog 18 #[t0] w K := calls_of_eq mixedM Try.func18 (F18_eq _ t0 w K) h

/-- mintmark/pte.Right -/
def F19 (P : Program) (t0 : Value) (w : World) (K : Value → World → Prop) : Prop :=
  kV P (Instr.box 32 t0) w fun v1 w =>
  kV P (Instr.fieldAt 32 v1 0) w fun v4 w =>
  kV P (Instr.loadAt 4 v4) w fun v5 w =>
  kV P (Op.unary .not v5) w fun v6 w =>
  condK v6
  (K (.bool true) w)
  (joinL (fun J0 =>
  kV P (Instr.fieldAt 32 v1 2) w fun v8 w =>
  kV P (Instr.loadAt 4 v8) w fun v9 w =>
  joinK (fun J2 : Value → World → Prop => gdK (yb v9) true (fun k => kV P (Instr.fieldAt 32 v1 1) w k) w fun v11 w =>
  gdK (yb v9) true (fun k => kV P (Instr.loadAt 4 v11) w k) w fun v12 w =>
  gdK (yb v9) true (fun k => kV P (Op.unary .not v12) w k) w fun v13 w =>
  kN P (pickN v9 v13 (.bool false)) w fun v14_1 w =>
  J2 v14_1 w) fun v14 w =>
  condK v14
  (J0 [v14] w)
  (kV P (Instr.fieldAt 32 v1 8) w fun v15 w =>
  kV P (Instr.loadAt 4 v15) w fun v16 w =>
  joinK (fun J3 : Value → World → Prop => gdK (yb v16) true (fun k => kV P (Instr.fieldAt 32 v1 2) w k) w fun v18 w =>
  gdK (yb v16) true (fun k => kV P (Instr.loadAt 4 v18) w k) w fun v19 w =>
  gdK (yb v16) true (fun k => kV P (Op.unary .not v19) w k) w fun v20 w =>
  kN P (pickN v16 v20 (.bool false)) w fun v21_1 w =>
  J3 v21_1 w) fun v21 w =>
  condK v21
  (J0 [v21] w)
  (kV P (Instr.fieldAt 32 v1 9) w fun v22 w =>
  kV P (Instr.loadAt 4 v22) w fun v23 w =>
  joinK (fun J4 : Value → World → Prop => gdK (yb v23) true (fun k => kV P (Instr.fieldAt 32 v1 1) w k) w fun v25 w =>
  gdK (yb v23) true (fun k => kV P (Instr.loadAt 4 v25) w k) w fun v26 w =>
  gdK (yb v23) true (fun k => kV P (Op.unary .not v26) w k) w fun v27 w =>
  kN P (pickN v23 v27 (.bool false)) w fun v28_1 w =>
  J4 v28_1 w) fun v28 w =>
  condK v28
  (J0 [v28] w)
  (drewK (fun w =>
  pV P (Instr.fieldAt 32 v1 12) fun v29 =>
  (kV P (Instr.loadAt 23 v29) w fun v30 w =>
  kN P (callN (.func (.func 65) #[] #[]) #[(.int .i64 44)]) w fun v31 w =>
  pV P (binV .gtr 23 (.tmp 30) (.tmp 31) v30 v31) fun v32 =>
  J0 [v32] w) ∧
  (kN P (callN (.func (.func 65) #[] #[]) #[(.int .i64 44)]) w fun v31_1 w =>
  kV P (Instr.loadAt 23 v29) w fun v30_1 w =>
  pV P (binV .gtr 23 (.tmp 30) (.tmp 31) v30_1 v31_1) fun v32_1 =>
  J0 [v32_1] w)) w)))) fun s0 w => ∀ _ : Nat → Value,
  condK (s0.getD 0 undef)
  (K (.bool false) w)
  (kV P (Instr.loadAt 32 v1) w fun v34 w =>
  kN P (callN (.func (.func 18) #[] #[]) #[v34]) w fun v35 w =>
  condK v35
  (K (.bool true) w)
  (kV P (Instr.loadAt 32 v1) w fun v36 w =>
  kV P (Instr.fieldAt 32 v1 5) w fun v37 w =>
  kV P (Instr.loadAt 4 v37) w fun v38 w =>
  kV P (Instr.fieldAt 32 v1 12) w fun v39 w =>
  kV P (Instr.loadAt 23 v39) w fun v40 w =>
  kV P (Instr.build 32 #[(0, (.bool true)), (5, v38), (12, v40)]) w fun v41 w =>
  kV P (binV .eql 32 (.tmp 36) (.tmp 41) v36 v41) w fun v42 w =>
  K v42 w)))
theorem F19_eq (P : Program) (t0 : Value) (w : World) (K : Value → World → Prop) : funE P ⟨[(6, 999)], [], [(7, [7])]⟩ Try.f19 [t0] w K = F19 P t0 w K := by kernel_rfl
theorem F19_ok (t0 : Value) (w : World) (K : Value → World → Prop) (h : F19 Try.prog t0 w K) : callsK Try.prog 19 #[t0] w K := calls_of_eq mixedM Try.func19 (F19_eq _ t0 w K) h

/-- mintmark/mintmarklaw10.WalkLeaves$1 -/
def F20 (P : Program) (t0 t1 t2 : Value) (w : World) (K : Value → World → Prop) : Prop :=
  kV P (convert 3 23 t0) w fun v8 w =>
  kV P (binV .shl 23 (.tmp 8) (.const (.int .u64 30)) v8 (.int .u64 30)) w fun v9 w =>
  kV P (convert 3 23 t1) w fun v11 w =>
  kV P (binV .shl 23 (.tmp 11) (.const (.int .u64 21)) v11 (.int .u64 21)) w fun v12 w =>
  kV P (binV .or 23 (.tmp 9) (.tmp 12) v9 v12) w fun v13 w =>
  kV P (convert 3 23 t2) w fun v15 w =>
  kV P (binV .shl 23 (.tmp 15) (.const (.int .u64 12)) v15 (.int .u64 12)) w fun v16 w =>
  kV P (binV .or 23 (.tmp 13) (.tmp 16) v13 v16) w fun v17 w =>
  K v17 w
theorem F20_eq (P : Program) (t0 t1 t2 : Value) (w : World) (K : Value → World → Prop) : funE P ⟨[], [], []⟩ Try.f20 [t0, t1, t2] w K = F20 P t0 t1 t2 w K := by kernel_rfl
theorem F20_ok (t0 t1 t2 : Value) (w : World) (K : Value → World → Prop) (h : F20 Try.prog t0 t1 t2 w K) : callsK Try.prog 20 #[t0, t1, t2] w K := calls_of_eq mixedM Try.func20 (F20_eq _ t0 t1 t2 w K) h

/-- mintmark/walk.Check -/
def F21 (P : Program) (t0 t1 t2 t3 : Value) (w : World) (K : Value → World → Prop) : Prop :=
  kV P (Instr.box 32 t0) w fun v4 w =>
  kV P (Instr.loadAt 32 v4) w fun v10 w =>
  kN P (callN (.func (.func 18) #[] #[]) #[v10]) w fun v11 w =>
  kV P (Op.unary .not v11) w fun v12 w =>
  condK v12
  (K (.int .i64 1) w)
  (kV P (Instr.fieldAt 32 v4 4) w fun v14 w =>
  kV P (Instr.loadAt 4 v14) w fun v15 w =>
  kV P (Op.unary .not v15) w fun v16 w =>
  joinK (fun J0 : Value → World → Prop => gdK (yb v16) false (fun k => kV P (Instr.loadAt 32 v4) w k) w fun v18 w =>
  gdK (yb v16) false (fun k => k t1 w) w fun v19 w =>
  gdK (yb v16) false (fun k => kN P (callN (.func (.func 66) #[] #[]) #[v18, v19]) w k) w fun v20 w =>
  gdK (yb v16) false (fun k => kV P (Op.unary .not v20) w k) w fun v21 w =>
  kN P (pickN v16 (.bool true) v21) w fun v22_1 w =>
  J0 v22_1 w) fun v22 w =>
  condK v22
  (K (.int .i64 2) w)
  (kV P (binV .eql 3 (.tmp 24) (.const (.int .i64 3)) t1 (.int .i64 3)) w fun v25 w =>
  joinK (fun J1 : Value → World → Prop => gdK (yb v25) true (fun k => kV P (Instr.fieldAt 32 v4 9) w k) w fun v27 w =>
  gdK (yb v25) true (fun k => kV P (Instr.loadAt 4 v27) w k) w fun v28 w =>
  kN P (pickN v25 v28 (.bool false)) w fun v29_1 w =>
  J1 v29_1 w) fun v29 w =>
  joinK (fun J2 : Value → World → Prop => gdK (yb v29) true (fun k => kV P (Instr.fieldAt 32 v4 11) w k) w fun v31 w =>
  gdK (yb v29) true (fun k => kV P (Instr.loadAt 4 v31) w k) w fun v32 w =>
  gdK (yb v29) true (fun k => k t3 w) w fun v33 w =>
  gdK (yb v29) true (fun k => kV P (binV .neq 4 (.tmp 32) (.tmp 33) v32 v33) w k) w fun v34 w =>
  kN P (pickN v29 v34 (.bool false)) w fun v35_1 w =>
  J2 v35_1 w) fun v35 w =>
  condK v35
  (K (.int .i64 3) w)
  (kV P (binV .eql 3 (.tmp 37) (.const (.int .i64 4)) t1 (.int .i64 4)) w fun v38 w =>
  joinK (fun J3 : Value → World → Prop => gdK (yb v38) true (fun k => k t2 w) w fun v40 w =>
  kN P (pickN v38 v40 (.bool false)) w fun v41_1 w =>
  J3 v41_1 w) fun v41 w =>
  joinK (fun J4 : Value → World → Prop => gdK (yb v41) true (fun k => kV P (Instr.fieldAt 32 v4 8) w k) w fun v43 w =>
  gdK (yb v41) true (fun k => kV P (Instr.loadAt 4 v43) w k) w fun v44 w =>
  gdK (yb v41) true (fun k => kV P (Op.unary .not v44) w k) w fun v45 w =>
  kN P (pickN v41 v45 (.bool false)) w fun v46_1 w =>
  J4 v46_1 w) fun v46 w =>
  condK v46
  (K (.int .i64 4) w)
  (K (.int .i64 0) w))))
theorem F21_eq (P : Program) (t0 t1 t2 t3 : Value) (w : World) (K : Value → World → Prop) : funE P ⟨[], [], []⟩ Try.f21 [t0, t1, t2, t3] w K = F21 P t0 t1 t2 t3 w K := by kernel_rfl
theorem F21_ok (t0 t1 t2 t3 : Value) (w : World) (K : Value → World → Prop) (h : F21 Try.prog t0 t1 t2 t3 w K) : callsK Try.prog 21 #[t0, t1, t2, t3] w K := calls_of_eq mixedM Try.func21 (F21_eq _ t0 t1 t2 t3 w K) h

/-- mintmark/mintmarkref10.Check -/
def F22 (P : Program) (t0 t1 t2 t3 : Value) (w : World) (K : Value → World → Prop) : Prop :=
  kV P (Instr.box 37 t0) w fun v4 w =>
  kV P (Instr.loadAt 37 v4) w fun v10 w =>
  kN P (callN (.func (.func 54) #[] #[]) #[v10]) w fun v11 w =>
  kV P (Op.unary .not v11) w fun v12 w =>
  condK v12
  (K (.int .i64 1) w)
  (kV P (binV .eql 3 (.tmp 13) (.const (.int .i64 0)) t1 (.int .i64 0)) w fun v14 w =>
  joinK (fun J0 : Value → World → Prop => gdK (yb v14) true (fun k => kV P (Instr.fieldAt 37 v4 3) w k) w fun v16 w =>
  gdK (yb v14) true (fun k => kV P (Instr.loadAt 4 v16) w k) w fun v17 w =>
  kN P (pickN v14 v17 (.bool false)) w fun v18_1 w =>
  J0 v18_1 w) fun v18 w =>
  joinK (fun J1 : Value → World → Prop => gdK (yb v18) false (fun k => k t1 w) w fun v20 w =>
  gdK (yb v18) false (fun k => kV P (binV .eql 3 (.tmp 20) (.const (.int .i64 1)) v20 (.int .i64 1)) w k) w fun v21 w =>
  gdK (yb v18) false (fun k => k v21 w) w fun v22 w =>
  gdK (yb v22) false (fun k => k t1 w) w fun v23 w =>
  gdK (yb v22) false (fun k => kV P (binV .eql 3 (.tmp 23) (.const (.int .i64 3)) v23 (.int .i64 3)) w k) w fun v24 w =>
  gdK (yb v18) false (fun k => kN P (pickN v22 (.bool true) v24) w k) w fun v25 w =>
  gdK (yb v18) false (fun k => k v25 w) w fun v26 w =>
  gdK (yb v26) true (fun k => kV P (Instr.fieldAt 37 v4 1) w k) w fun v27 w =>
  gdK (yb v26) true (fun k => kV P (Instr.loadAt 4 v27) w k) w fun v28 w =>
  gdK (yb v18) false (fun k => kN P (pickN v26 v28 (.bool false)) w k) w fun v29 w =>
  kN P (pickN v18 (.bool true) v29) w fun v30_1 w =>
  J1 v30_1 w) fun v30 w =>
  joinK (fun J2 : Value → World → Prop => gdK (yb v30) false (fun k => k t1 w) w fun v32 w =>
  gdK (yb v30) false (fun k => kV P (binV .eql 3 (.tmp 32) (.const (.int .i64 2)) v32 (.int .i64 2)) w k) w fun v33 w =>
  gdK (yb v30) false (fun k => k v33 w) w fun v34 w =>
  gdK (yb v34) false (fun k => k t1 w) w fun v35 w =>
  gdK (yb v34) false (fun k => kV P (binV .eql 3 (.tmp 35) (.const (.int .i64 4)) v35 (.int .i64 4)) w k) w fun v36 w =>
  gdK (yb v30) false (fun k => kN P (pickN v34 (.bool true) v36) w k) w fun v37 w =>
  gdK (yb v30) false (fun k => k v37 w) w fun v38 w =>
  gdK (yb v38) true (fun k => kV P (Instr.fieldAt 37 v4 2) w k) w fun v39 w =>
  gdK (yb v38) true (fun k => kV P (Instr.loadAt 4 v39) w k) w fun v40 w =>
  gdK (yb v30) false (fun k => kN P (pickN v38 v40 (.bool false)) w k) w fun v41 w =>
  kN P (pickN v30 (.bool true) v41) w fun v42_1 w =>
  J2 v42_1 w) fun v42 w =>
  kV P (Instr.fieldAt 37 v4 4) w fun v43 w =>
  kV P (Instr.loadAt 4 v43) w fun v44 w =>
  kV P (Op.unary .not v44) w fun v45 w =>
  joinK (fun J3 : Value → World → Prop => gdK (yb v45) false (fun k => k v42 w) w fun v47 w =>
  gdK (yb v45) false (fun k => kV P (Op.unary .not v47) w k) w fun v48 w =>
  kN P (pickN v45 (.bool true) v48) w fun v49_1 w =>
  J3 v49_1 w) fun v49 w =>
  condK v49
  (K (.int .i64 2) w)
  (kV P (binV .eql 3 (.tmp 50) (.const (.int .i64 3)) t1 (.int .i64 3)) w fun v51 w =>
  joinK (fun J4 : Value → World → Prop => gdK (yb v51) true (fun k => kV P (Instr.fieldAt 37 v4 9) w k) w fun v53 w =>
  gdK (yb v51) true (fun k => kV P (Instr.loadAt 4 v53) w k) w fun v54 w =>
  kN P (pickN v51 v54 (.bool false)) w fun v55_1 w =>
  J4 v55_1 w) fun v55 w =>
  joinK (fun J5 : Value → World → Prop => gdK (yb v55) true (fun k => kV P (Instr.fieldAt 37 v4 11) w k) w fun v57 w =>
  gdK (yb v55) true (fun k => kV P (Instr.loadAt 4 v57) w k) w fun v58 w =>
  gdK (yb v55) true (fun k => k t3 w) w fun v59 w =>
  gdK (yb v55) true (fun k => kV P (binV .neq 4 (.tmp 58) (.tmp 59) v58 v59) w k) w fun v60 w =>
  kN P (pickN v55 v60 (.bool false)) w fun v61_1 w =>
  J5 v61_1 w) fun v61 w =>
  condK v61
  (K (.int .i64 3) w)
  (kV P (binV .eql 3 (.tmp 62) (.const (.int .i64 4)) t1 (.int .i64 4)) w fun v63 w =>
  joinK (fun J6 : Value → World → Prop => gdK (yb v63) true (fun k => k t2 w) w fun v65 w =>
  kN P (pickN v63 v65 (.bool false)) w fun v66_1 w =>
  J6 v66_1 w) fun v66 w =>
  joinK (fun J7 : Value → World → Prop => gdK (yb v66) true (fun k => kV P (Instr.fieldAt 37 v4 8) w k) w fun v68 w =>
  gdK (yb v66) true (fun k => kV P (Instr.loadAt 4 v68) w k) w fun v69 w =>
  gdK (yb v66) true (fun k => kV P (Op.unary .not v69) w k) w fun v70 w =>
  kN P (pickN v66 v70 (.bool false)) w fun v71_1 w =>
  J7 v71_1 w) fun v71 w =>
  condK v71
  (K (.int .i64 4) w)
  (K (.int .i64 0) w))))
theorem F22_eq (P : Program) (t0 t1 t2 t3 : Value) (w : World) (K : Value → World → Prop) : funE P ⟨[], [], []⟩ Try.f22 [t0, t1, t2, t3] w K = F22 P t0 t1 t2 t3 w K := by kernel_rfl
theorem F22_ok (t0 t1 t2 t3 : Value) (w : World) (K : Value → World → Prop) (h : F22 Try.prog t0 t1 t2 t3 w K) : callsK Try.prog 22 #[t0, t1, t2, t3] w K := calls_of_eq mixedM Try.func22 (F22_eq _ t0 t1 t2 t3 w K) h

/-- mintmark/walk.Marked -/
def F23 (P : Program) (t0 t1 t2 : Value) (w : World) (K : Value → World → Prop) : Prop :=
  kV P (Instr.box 32 t0) w fun v3 w =>
  kV P (Instr.alloc 32 true (.tuple #[])) w fun v6 w =>
  kV P (Instr.fieldAt 32 v3 6) w fun v9 w =>
  kN P (callN (.func (.func 67) #[] #[]) #[v9, (.bool true)]) w fun v10 w =>
  kV P (Instr.fieldAt 32 v3 7) w fun v12 w =>
  kV P (binV .eql 3 (.tmp 13) (.const (.int .i64 2)) t1 (.int .i64 2)) w fun v14 w =>
  joinK (fun J0 : Value → World → Prop => gdK (yb v14) false (fun k => k t1 w) w fun v16 w =>
  gdK (yb v14) false (fun k => kV P (binV .eql 3 (.tmp 16) (.const (.int .i64 4)) v16 (.int .i64 4)) w k) w fun v17 w =>
  kN P (pickN v14 (.bool true) v17) w fun v18_1 w =>
  J0 v18_1 w) fun v18 w =>
  kN P (callN (.func (.func 67) #[] #[]) #[v12, v18]) w fun v19 w =>
  kV P (Instr.fieldAt 32 v3 10) w fun v21 w =>
  kV P (binV .eql 3 (.tmp 22) (.const (.int .i64 4)) t1 (.int .i64 4)) w fun v23 w =>
  joinK (fun J1 : Value → World → Prop => gdK (yb v23) true (fun k => k t2 w) w fun v25 w =>
  kN P (pickN v23 v25 (.bool false)) w fun v26_1 w =>
  J1 v26_1 w) fun v26 w =>
  kN P (callN (.func (.func 67) #[] #[]) #[v21, v26]) w fun v27 w =>
  kV P (Instr.loadAt 32 v3) w fun v28 w =>
  kU P (Instr.storeAt 32 v6 v28) w fun _ w =>
  retV P 32 v6 w fun r2 =>
  K r2 w
theorem F23_eq (P : Program) (t0 t1 t2 : Value) (w : World) (K : Value → World → Prop) : funE P ⟨[], [], []⟩ Try.f23 [t0, t1, t2] w K = F23 P t0 t1 t2 w K := by kernel_rfl
theorem F23_ok (t0 t1 t2 : Value) (w : World) (K : Value → World → Prop) (h : F23 Try.prog t0 t1 t2 w K) : callsK Try.prog 23 #[t0, t1, t2] w K := calls_of_eq mixedM Try.func23 (F23_eq _ t0 t1 t2 w K) h

/-- mintmark/mintmarkref10.Marked -/
def F24 (P : Program) (t0 t1 t2 : Value) (w : World) (K : Value → World → Prop) : Prop :=
  kV P (Instr.box 37 t0) w fun v3 w =>
  kV P (Instr.alloc 37 true (.tuple #[])) w fun v6 w =>
  kV P (Instr.fieldAt 37 v3 6) w fun v7 w =>
  kU P (Instr.storeAt 4 v7 (.bool true)) w fun _ w =>
  kV P (Instr.fieldAt 37 v3 7) w fun v8 w =>
  kV P (Instr.loadAt 4 v8) w fun v9 w =>
  joinK (fun J0 : Value → World → Prop => gdK (yb v9) false (fun k => k t1 w) w fun v11 w =>
  gdK (yb v9) false (fun k => kV P (binV .eql 3 (.tmp 11) (.const (.int .i64 2)) v11 (.int .i64 2)) w k) w fun v12 w =>
  kN P (pickN v9 (.bool true) v12) w fun v13_1 w =>
  J0 v13_1 w) fun v13 w =>
  joinK (fun J1 : Value → World → Prop => gdK (yb v13) false (fun k => k t1 w) w fun v15 w =>
  gdK (yb v13) false (fun k => kV P (binV .eql 3 (.tmp 15) (.const (.int .i64 4)) v15 (.int .i64 4)) w k) w fun v16 w =>
  kN P (pickN v13 (.bool true) v16) w fun v17_1 w =>
  J1 v17_1 w) fun v17 w =>
  kV P (Instr.fieldAt 37 v3 7) w fun v18 w =>
  kU P (Instr.storeAt 4 v18 v17) w fun _ w =>
  kV P (Instr.fieldAt 37 v3 10) w fun v19 w =>
  kV P (Instr.loadAt 4 v19) w fun v20 w =>
  joinK (fun J2 : Value → World → Prop => gdK (yb v20) false (fun k => k t1 w) w fun v22 w =>
  gdK (yb v20) false (fun k => kV P (binV .eql 3 (.tmp 22) (.const (.int .i64 4)) v22 (.int .i64 4)) w k) w fun v23 w =>
  gdK (yb v20) false (fun k => k v23 w) w fun v24 w =>
  gdK (yb v24) true (fun k => k t2 w) w fun v25 w =>
  gdK (yb v20) false (fun k => kN P (pickN v24 v25 (.bool false)) w k) w fun v26 w =>
  kN P (pickN v20 (.bool true) v26) w fun v27_1 w =>
  J2 v27_1 w) fun v27 w =>
  kV P (Instr.fieldAt 37 v3 10) w fun v28 w =>
  kU P (Instr.storeAt 4 v28 v27) w fun _ w =>
  kV P (Instr.loadAt 37 v3) w fun v29 w =>
  kU P (Instr.storeAt 37 v6 v29) w fun _ w =>
  retV P 37 v6 w fun r3 =>
  K r3 w
theorem F24_eq (P : Program) (t0 t1 t2 : Value) (w : World) (K : Value → World → Prop) : funE P ⟨[], [], []⟩ Try.f24 [t0, t1, t2] w K = F24 P t0 t1 t2 w K := by kernel_rfl
theorem F24_ok (t0 t1 t2 : Value) (w : World) (K : Value → World → Prop) (h : F24 Try.prog t0 t1 t2 w K) : callsK Try.prog 24 #[t0, t1, t2] w K := calls_of_eq mixedM Try.func24 (F24_eq _ t0 t1 t2 w K) h

/-- mintmark/walk.Strip -/
def F25 (P : Program) (t0 t1 : Value) (w : World) (K : Value → World → Prop) : Prop :=
  kV P (Instr.box 32 t0) w fun v2 w =>
  kV P (binV .eql 3 (.tmp 5) (.const (.int .i64 3)) t1 (.int .i64 3)) w fun v6 w =>
  joinK (fun J0 : Value → World → Prop => gdK (yb v6) true (fun k => kV P (Instr.fieldAt 32 v2 9) w k) w fun v8 w =>
  gdK (yb v6) true (fun k => kV P (Instr.loadAt 4 v8) w k) w fun v9 w =>
  gdK (yb v6) true (fun k => kV P (Op.unary .not v9) w k) w fun v10 w =>
  kN P (pickN v6 v10 (.bool false)) w fun v11_1 w =>
  J0 v11_1 w) fun v11 w =>
  K v11 w
theorem F25_eq (P : Program) (t0 t1 : Value) (w : World) (K : Value → World → Prop) : funE P ⟨[], [], []⟩ Try.f25 [t0, t1] w K = F25 P t0 t1 w K := by kernel_rfl
theorem F25_ok (t0 t1 : Value) (w : World) (K : Value → World → Prop) (h : F25 Try.prog t0 t1 w K) : callsK Try.prog 25 #[t0, t1] w K := calls_of_eq mixedM Try.func25 (F25_eq _ t0 t1 w K) h

/-- mintmark/walk.Mark -/
def F26 (P : Program) (t0 t1 t2 t3 : Value) (w : World) (K : Value → World → Prop) : Prop :=
  kV P (Instr.box 34 t1) w fun v5 w =>
  kV P (Instr.alloc 34 true (.tuple #[])) w fun v8 w =>
  kV P (Instr.fieldAt 34 v5 0) w fun v10 w =>
  kV P (Instr.loadAt 32 v10) w fun v11 w =>
  kN P (callN (.func (.func 23) #[] #[]) #[v11, t2, t3]) w fun v14 w =>
  kV P (Instr.alloc 32 true (.tuple #[])) w fun v9 w =>
  kU P (Instr.storeAt 32 v9 v14) w fun _ w =>
  joinL (fun J0 =>
  kV P (Instr.loadAt 32 v9) w fun v15 w =>
  kV P (Instr.fieldAt 34 v5 0) w fun v16 w =>
  kV P (Instr.loadAt 32 v16) w fun v17 w =>
  kV P (binV .neq 32 (.tmp 15) (.tmp 17) v15 v17) w fun v18 w =>
  condK v18
  (drewK (fun w =>
  pV P (Instr.fieldAt 34 v5 1) fun v20 =>
  (kV P (Instr.loadAt 23 v20) w fun v21 w =>
  kV P (Instr.loadAt 32 v9) w fun v22 w =>
  kN P (callN (.func (.func 16) #[] #[]) #[v22]) w fun v23 w =>
  kN P (callN (.func (.func 15) #[] #[]) #[t0, v21, (.int .i64 8), v23]) w fun v24 w =>
  J0 [] w) ∧
  (kV P (Instr.loadAt 32 v9) w fun v22_1 w =>
  (kV P (Instr.loadAt 23 v20) w fun v21_1 w =>
  kN P (callN (.func (.func 16) #[] #[]) #[v22_1]) w fun v23_1 w =>
  kN P (callN (.func (.func 15) #[] #[]) #[t0, v21_1, (.int .i64 8), v23_1]) w fun v24_1 w =>
  J0 [] w) ∧
  (kN P (callN (.func (.func 16) #[] #[]) #[v22_1]) w fun v23_2 w =>
  kV P (Instr.loadAt 23 v20) w fun v21_2 w =>
  kN P (callN (.func (.func 15) #[] #[]) #[t0, v21_2, (.int .i64 8), v23_2]) w fun v24_2 w =>
  J0 [] w))) w)
  (J0 [] w)) fun s0 w => ∀ _ : Nat → Value,
  kV P (Instr.loadAt 32 v9) w fun v25 w =>
  kV P (Instr.fieldAt 34 v5 1) w fun v26 w =>
  kV P (Instr.loadAt 23 v26) w fun v27 w =>
  kV P (Instr.build 34 #[(0, v25), (1, v27)]) w fun v28 w =>
  kU P (Instr.storeAt 34 v8 v28) w fun _ w =>
  retV P 34 v8 w fun r2 =>
  K r2 w
theorem F26_eq (P : Program) (t0 t1 t2 t3 : Value) (w : World) (K : Value → World → Prop) : funE P ⟨[(3, 999)], [], [(4, [])]⟩ Try.f26 [t0, t1, t2, t3] w K = F26 P t0 t1 t2 t3 w K := by kernel_rfl
theorem F26_ok (t0 t1 t2 t3 : Value) (w : World) (K : Value → World → Prop) (h : F26 Try.prog t0 t1 t2 t3 w K) : callsK Try.prog 26 #[t0, t1, t2, t3] w K := calls_of_eq mixedM Try.func26 (F26_eq _ t0 t1 t2 t3 w K) h

/-- (*mintmark/ram.Ram).Load -/
def F29 (P : Program) (t0 t1 t2 : Value) (w : World) (K : Value → World → Prop) : Prop :=
  kN P (callN (.func (.func 55) #[] #[]) #[t2]) w fun v16 w =>
  kV P (Instr.extract v16 0) w fun v17 w =>
  kV P (Instr.extract v16 1) w fun v18 w =>
  kN P (callN (.func (.func 56) #[] #[]) #[t0, t1, v17]) w fun v23 w =>
  kV P (Instr.extract v23 0) w fun v24 w =>
  kV P (Instr.extract v23 1) w fun v25 w =>
  kV P (Instr.extract v23 2) w fun v26 w =>
  kV P (Instr.alloc 121 true (.tuple #[])) w fun v10 w =>
  kV P (Instr.alloc 3 true (.tuple #[])) w fun v11 w =>
  kU P (Instr.storeAt 121 v10 v24) w fun _ w =>
  kU P (Instr.storeAt 3 v11 v25) w fun _ w =>
  joinL (fun J0 =>
  kV P (binV .eql 45 (.tmp 27) (.const (.int .i64 0)) v26 (.int .i64 0)) w fun v28 w =>
  joinK (fun J2 : Value → World → Prop => gdK (yb v28) true (fun k => k v18 w) w fun v30 w =>
  gdK (yb v28) true (fun k => kV P (Op.unary .not v30) w k) w fun v31 w =>
  kN P (pickN v28 v31 (.bool false)) w fun v32_1 w =>
  J2 v32_1 w) fun v32 w =>
  condK v32
  (J0 [(.int .i64 2)] w)
  (J0 [v26] w)) fun s0 w => ∀ _ : Nat → Value,
  kV P (binV .neq 45 (.tmp 33) (.const (.int .i64 0)) (s0.getD 0 undef) (.int .i64 0)) w fun v34 w =>
  condK v34
  (K (.tuple #[(.int .u64 0), (s0.getD 0 undef)]) w)
  (kV P (Instr.alloc 23 true (.tuple #[])) w fun v13 w =>
  kU P (Instr.storeAt 23 v13 (.int .u64 0)) w fun _ w =>
  kN P (callN (.func (.func 57) #[] #[]) #[t2, (.func (.func 73) #[] #[v13, v10, v11])]) w fun v38 w =>
  kV P (Instr.loadAt 23 v13) w fun v39 w =>
  K (.tuple #[v39, (.int .i64 0)]) w)
theorem F29_eq (P : Program) (t0 t1 t2 : Value) (w : World) (K : Value → World → Prop) : funE P ⟨[], [], [(5, [12])]⟩ Try.f29 [t0, t1, t2] w K = F29 P t0 t1 t2 w K := by kernel_rfl
theorem F29_ok (t0 t1 t2 : Value) (w : World) (K : Value → World → Prop) (h : F29 Try.prog t0 t1 t2 w K) : callsK Try.prog 29 #[t0, t1, t2] w K := calls_of_eq mixedM Try.func29 (F29_eq _ t0 t1 t2 w K) h

/-- (mintmark/mintmarkref08.Ram).Store -/
def F35 (P : Program) (t0 t1 t2 t3 : Value) (w : World) (K : Value → World → Prop) : Prop :=
  kV P (Instr.box 28 t0) w fun v4 w =>
  kV P (Instr.alloc 28 true (.tuple #[])) w fun v8 w =>
  kV P (Instr.loadAt 28 v4) w fun v11 w =>
  kN P (callN (.func (.func 79) #[] #[]) #[v11, t1, t2]) w fun v14 w =>
  kV P (Op.unary .not v14) w fun v15 w =>
  condK v15
  (kV P (Instr.loadAt 28 v4) w fun v16 w =>
  kU P (Instr.storeAt 28 v8 v16) w fun _ w =>
  retV P 28 v8 w fun r0 =>
  K (.tuple #[r0, (.int .i64 2)]) w)
  (loopT (fun R1 s1 w => ∀ _ : Nat → Value,
  kV P (binV .lss 3 (.tmp 17) (.tmp 18) (s1.getD 0 undef) t2) w fun v19 w =>
  condK v19
  (kV P (Instr.loadAt 28 v4) w fun v22 w =>
  kV P (convert 3 23 (s1.getD 0 undef)) w fun v25 w =>
  kV P (binV .add 23 (.tmp 23) (.tmp 25) t1 v25) w fun v26 w =>
  kV P (binV .mul 3 (.const (.int .i64 8)) (.tmp 28) (.int .i64 8) (s1.getD 0 undef)) w fun v29 w =>
  kV P (convert 3 52 v29) w fun v30 w =>
  kV P (binV .shr 23 (.tmp 27) (.tmp 30) t3 v30) w fun v31 w =>
  kV P (convert 23 5 v31) w fun v32 w =>
  kN P (callN (.func (.func 80) #[] #[]) #[v22, v26, v32]) w fun v33 w =>
  kU P (Instr.storeAt 28 v4 v33) w fun _ w =>
  kV P (binV .add 3 (.tmp 20) (.const (.int .i64 1)) (s1.getD 0 undef) (.int .i64 1)) w fun v21 w =>
  R1 [v21] w)
  (kV P (Instr.loadAt 28 v4) w fun v34 w =>
  kU P (Instr.storeAt 28 v8 v34) w fun _ w =>
  retV P 28 v8 w fun r3 =>
  K (.tuple #[r3, (.int .i64 0)]) w)) [(.int .i64 0)] w)
theorem F35_eq (P : Program) (t0 t1 t2 t3 : Value) (w : World) (K : Value → World → Prop) : funE P ⟨[], [(4, [10])], []⟩ Try.f35 [t0, t1, t2, t3] w K = F35 P t0 t1 t2 t3 w K := by kernel_rfl
theorem F35_ok (t0 t1 t2 t3 : Value) (w : World) (K : Value → World → Prop) (h : F35 Try.prog t0 t1 t2 t3 w K) : callsK Try.prog 35 #[t0, t1, t2, t3] w K := calls_of_eq mixedM Try.func35 (F35_eq _ t0 t1 t2 t3 w K) h

/-- mintmark/mintmarkref09.Word -/
def F36 (P : Program) (t0 : Value) (w : World) (K : Value → World → Prop) : Prop :=
  kV P (Instr.box 37 t0) w fun v1 w =>
  drewK (fun w =>
  sV P (Instr.fieldAt 37 v1 0) w fun v4 =>
  sV P (Instr.loadAt 4 v4) w fun v5 =>
  sN P (callN (.func (.func 81) #[] #[]) #[v5, (.int .u64 0)]) w fun v6 =>
  sV P (Instr.fieldAt 37 v1 1) w fun v7 =>
  sV P (Instr.loadAt 4 v7) w fun v8 =>
  sN P (callN (.func (.func 81) #[] #[]) #[v8, (.int .u64 1)]) w fun v9 =>
  sV P (binV .add 23 (.tmp 6) (.tmp 9) v6 v9) w fun v10 =>
  sV P (Instr.fieldAt 37 v1 2) w fun v11 =>
  sV P (Instr.loadAt 4 v11) w fun v12 =>
  sN P (callN (.func (.func 81) #[] #[]) #[v12, (.int .u64 2)]) w fun v13 =>
  sV P (binV .add 23 (.tmp 10) (.tmp 13) v10 v13) w fun v14 =>
  sV P (Instr.fieldAt 37 v1 3) w fun v15 =>
  sV P (Instr.loadAt 4 v15) w fun v16 =>
  sN P (callN (.func (.func 81) #[] #[]) #[v16, (.int .u64 3)]) w fun v17 =>
  sV P (binV .add 23 (.tmp 14) (.tmp 17) v14 v17) w fun v18 =>
  sV P (Instr.fieldAt 37 v1 4) w fun v19 =>
  sV P (Instr.loadAt 4 v19) w fun v20 =>
  sN P (callN (.func (.func 81) #[] #[]) #[v20, (.int .u64 4)]) w fun v21 =>
  sV P (binV .add 23 (.tmp 18) (.tmp 21) v18 v21) w fun v22 =>
  sV P (Instr.fieldAt 37 v1 5) w fun v23 =>
  sV P (Instr.loadAt 4 v23) w fun v24 =>
  sN P (callN (.func (.func 81) #[] #[]) #[v24, (.int .u64 5)]) w fun v25 =>
  sV P (binV .add 23 (.tmp 22) (.tmp 25) v22 v25) w fun v26 =>
  sV P (Instr.fieldAt 37 v1 6) w fun v27 =>
  sV P (Instr.loadAt 4 v27) w fun v28 =>
  sN P (callN (.func (.func 81) #[] #[]) #[v28, (.int .u64 6)]) w fun v29 =>
  sV P (binV .add 23 (.tmp 26) (.tmp 29) v26 v29) w fun v30 =>
  sV P (Instr.fieldAt 37 v1 7) w fun v31 =>
  sV P (Instr.loadAt 4 v31) w fun v32 =>
  sN P (callN (.func (.func 81) #[] #[]) #[v32, (.int .u64 7)]) w fun v33 =>
  sV P (binV .add 23 (.tmp 30) (.tmp 33) v30 v33) w fun v34 =>
  drewK (fun w =>
  sV P (Instr.fieldAt 37 v1 8) w fun v36 =>
  sV P (Instr.loadAt 4 v36) w fun v37 =>
  sN P (callN (.func (.func 81) #[] #[]) #[v37, (.int .u64 58)]) w fun v38 =>
  sV P (binV .add 23 (.tmp 35) (.tmp 38) v34 v38) w fun v39 =>
  sV P (Instr.fieldAt 37 v1 9) w fun v40 =>
  sV P (Instr.loadAt 4 v40) w fun v41 =>
  sN P (callN (.func (.func 81) #[] #[]) #[v41, (.int .u64 59)]) w fun v42 =>
  sV P (binV .add 23 (.tmp 39) (.tmp 42) v39 v42) w fun v43 =>
  sV P (Instr.fieldAt 37 v1 10) w fun v44 =>
  sV P (Instr.loadAt 4 v44) w fun v45 =>
  sN P (callN (.func (.func 81) #[] #[]) #[v45, (.int .u64 60)]) w fun v46 =>
  sV P (binV .add 23 (.tmp 43) (.tmp 46) v43 v46) w fun v47 =>
  sV P (Instr.fieldAt 37 v1 11) w fun v48 =>
  sV P (Instr.loadAt 4 v48) w fun v49 =>
  sN P (callN (.func (.func 81) #[] #[]) #[v49, (.int .u64 61)]) w fun v50 =>
  sV P (binV .add 23 (.tmp 47) (.tmp 50) v47 v50) w fun v51 =>
  sV P (Instr.fieldAt 37 v1 12) w fun v52 =>
  sV P (Instr.loadAt 23 v52) w fun v53 =>
  sV P (binV .rem 23 (.tmp 53) (.const (.int .u64 17592186044416)) v53 (.int .u64 17592186044416)) w fun v54 =>
  sV P (binV .shl 23 (.tmp 54) (.const (.int .u64 10)) v54 (.int .u64 10)) w fun v55 =>
  sV P (binV .add 23 (.tmp 51) (.tmp 55) v51 v55) w fun v56 =>
  K v56 w) w) w
theorem F36_eq (P : Program) (t0 : Value) (w : World) (K : Value → World → Prop) : funE P ⟨[], [], []⟩ Try.f36 [t0] w K = F36 P t0 w K := by kernel_rfl
theorem F36_ok (t0 : Value) (w : World) (K : Value → World → Prop) (h : F36 Try.prog t0 w K) : callsK Try.prog 36 #[t0] w K := calls_of_eq mixedM Try.func36 (F36_eq _ t0 w K) h

/-- (mintmark/mintmarkref08.Ram).Load -/
def F44 (P : Program) (t0 t1 t2 : Value) (w : World) (K : Value → World → Prop) : Prop :=
  kV P (Instr.box 28 t0) w fun v3 w =>
  kV P (Instr.loadAt 28 v3) w fun v10 w =>
  kN P (callN (.func (.func 79) #[] #[]) #[v10, t1, t2]) w fun v13 w =>
  kV P (Op.unary .not v13) w fun v14 w =>
  condK v14
  (K (.tuple #[(.int .u64 0), (.int .i64 2)]) w)
  (loopT (fun R0 s0 w => ∀ _ : Nat → Value,
  kV P (binV .lss 3 (.tmp 15) (.tmp 16) (s0.getD 1 undef) t2) w fun v17 w =>
  condK v17
  (kV P (Instr.loadAt 28 v3) w fun v21 w =>
  kV P (convert 3 23 (s0.getD 1 undef)) w fun v24 w =>
  kV P (binV .add 23 (.tmp 22) (.tmp 24) t1 v24) w fun v25 w =>
  kN P (callN (.func (.func 86) #[] #[]) #[v21, v25]) w fun v26 w =>
  kV P (convert 5 23 v26) w fun v27 w =>
  kV P (binV .mul 3 (.const (.int .i64 8)) (.tmp 28) (.int .i64 8) (s0.getD 1 undef)) w fun v29 w =>
  kV P (convert 3 52 v29) w fun v30 w =>
  kV P (binV .shl 23 (.tmp 27) (.tmp 30) v27 v30) w fun v31 w =>
  kV P (binV .add 23 (.tmp 20) (.tmp 31) (s0.getD 0 undef) v31) w fun v32 w =>
  kV P (binV .add 3 (.tmp 18) (.const (.int .i64 1)) (s0.getD 1 undef) (.int .i64 1)) w fun v19 w =>
  R0 [v32, v19] w)
  (K (.tuple #[(s0.getD 0 undef), (.int .i64 0)]) w)) [(.int .u64 0), (.int .i64 0)] w)
theorem F44_eq (P : Program) (t0 t1 t2 : Value) (w : World) (K : Value → World → Prop) : funE P ⟨[], [(5, [8, 9])], []⟩ Try.f44 [t0, t1, t2] w K = F44 P t0 t1 t2 w K := by kernel_rfl
theorem F44_ok (t0 t1 t2 : Value) (w : World) (K : Value → World → Prop) (h : F44 Try.prog t0 t1 t2 w K) : callsK Try.prog 44 #[t0, t1, t2] w K := calls_of_eq mixedM Try.func44 (F44_eq _ t0 t1 t2 w K) h

/-- mintmark/ram.New -/
def F45 (P : Program) (t0 : Value) (w : World) (K : Value → World → Prop) : Prop :=
  kV P (binV .lss 3 (.tmp 4) (.const (.int .i64 1)) t0 (.int .i64 1)) w fun v5 w =>
  joinK (fun J0 : Value → World → Prop => gdK (yb v5) false (fun k => k t0 w) w fun v7 w =>
  gdK (yb v5) false (fun k => kV P (binV .gtr 3 (.tmp 7) (.const (.int .i64 64)) v7 (.int .i64 64)) w k) w fun v8 w =>
  kN P (pickN v5 (.bool true) v8) w fun v9_1 w =>
  J0 v9_1 w) fun v9 w =>
  condK v9
  (K (.tuple #[(.pointer none), (.int .i64 2)]) w)
  (kV P (Instr.makeSlice 165 t0 t0) w fun v11 w =>
  kV P (Instr.build 167 #[(0, v11)]) w fun v12 w =>
  kV P (Instr.box 167 v12) w fun v13 w =>
  K (.tuple #[v13, (.int .i64 0)]) w)
theorem F45_eq (P : Program) (t0 : Value) (w : World) (K : Value → World → Prop) : funE P ⟨[], [], []⟩ Try.f45 [t0] w K = F45 P t0 w K := by kernel_rfl
theorem F45_ok (t0 : Value) (w : World) (K : Value → World → Prop) (h : F45 Try.prog t0 w K) : callsK Try.prog 45 #[t0] w K := calls_of_eq mixedM Try.func45 (F45_eq _ t0 w K) h

/-- mintmark/mintmarkref08.New -/
def F46 (P : Program) (t0 : Value) (w : World) (K : Value → World → Prop) : Prop :=
  kV P (Instr.alloc 28 true (.tuple #[])) w fun v2 w =>
  kV P (binV .lss 3 (.tmp 4) (.const (.int .i64 1)) t0 (.int .i64 1)) w fun v5 w =>
  joinK (fun J0 : Value → World → Prop => gdK (yb v5) false (fun k => k t0 w) w fun v7 w =>
  gdK (yb v5) false (fun k => kV P (binV .gtr 3 (.tmp 7) (.const (.int .i64 64)) v7 (.int .i64 64)) w k) w fun v8 w =>
  kN P (pickN v5 (.bool true) v8) w fun v9_1 w =>
  J0 v9_1 w) fun v9 w =>
  condK v9
  (kV P (Instr.build 28 #[]) w fun v10 w =>
  kU P (Instr.storeAt 28 v2 v10) w fun _ w =>
  retV P 28 v2 w fun r1 =>
  K (.tuple #[r1, (.int .i64 2)]) w)
  (kV P (Instr.build 28 #[(0, t0)]) w fun v12 w =>
  kU P (Instr.storeAt 28 v2 v12) w fun _ w =>
  retV P 28 v2 w fun r2 =>
  K (.tuple #[r2, (.int .i64 0)]) w)
theorem F46_eq (P : Program) (t0 : Value) (w : World) (K : Value → World → Prop) : funE P ⟨[], [], []⟩ Try.f46 [t0] w K = F46 P t0 w K := by kernel_rfl
theorem F46_ok (t0 : Value) (w : World) (K : Value → World → Prop) (h : F46 Try.prog t0 w K) : callsK Try.prog 46 #[t0] w K := calls_of_eq mixedM Try.func46 (F46_eq _ t0 w K) h

/-- (*mintmark/ram.Ram).Frames -/
def F47 (P : Program) (t0 : Value) (w : World) (K : Value → World → Prop) : Prop :=
  kN P (callN (.func (.func 87) #[] #[]) #[t0]) w fun v4 w =>
  condK v4
  (K (.int .i64 0) w)
  (kN P (nilN t0) w fun v6 w =>
  kV P (Instr.fieldAt 167 v6 0) w fun v7 w =>
  kV P (Instr.loadAt 165 v7) w fun v8 w =>
  kV P (Builtin.len_ #[165] 3 #[v8]) w fun v9 w =>
  K v9 w)
theorem F47_eq (P : Program) (t0 : Value) (w : World) (K : Value → World → Prop) : funE P ⟨[], [], []⟩ Try.f47 [t0] w K = F47 P t0 w K := by kernel_rfl
theorem F47_ok (t0 : Value) (w : World) (K : Value → World → Prop) (h : F47 Try.prog t0 w K) : callsK Try.prog 47 #[t0] w K := calls_of_eq mixedM Try.func47 (F47_eq _ t0 w K) h

/-- mintmark/pte.May -/
def F48 (P : Program) (t0 : Value) (w : World) (K : Value → World → Prop) : Prop :=
  kV P (binV .lss 23 (.tmp 3) (.const (.int .u64 274877906944)) t0 (.int .u64 274877906944)) w fun v4 w =>
  K v4 w
theorem F48_eq (P : Program) (t0 : Value) (w : World) (K : Value → World → Prop) : funE P ⟨[], [], []⟩ Try.f48 [t0] w K = F48 P t0 w K := by kernel_rfl
theorem F48_ok (t0 : Value) (w : World) (K : Value → World → Prop) (h : F48 Try.prog t0 w K) : callsK Try.prog 48 #[t0] w K := calls_of_eq mixedM Try.func48 (F48_eq _ t0 w K) h

/-- mintmark/walk.place -/
def F49 (P : Program) (t0 t1 : Value) (w : World) (K : Value → World → Prop) : Prop :=
  kV P (binV .mul 23 (.tmp 5) (.const (.int .u64 4096)) t0 (.int .u64 4096)) w fun v6 w =>
  kV P (convert 3 23 t1) w fun v8 w =>
  kV P (binV .mul 23 (.tmp 8) (.const (.int .u64 8)) v8 (.int .u64 8)) w fun v9 w =>
  kV P (binV .add 23 (.tmp 6) (.tmp 9) v6 v9) w fun v10 w =>
  K v10 w
theorem F49_eq (P : Program) (t0 t1 : Value) (w : World) (K : Value → World → Prop) : funE P ⟨[], [], []⟩ Try.f49 [t0, t1] w K = F49 P t0 t1 w K := by kernel_rfl
theorem F49_ok (t0 t1 : Value) (w : World) (K : Value → World → Prop) (h : F49 Try.prog t0 t1 w K) : callsK Try.prog 49 #[t0, t1] w K := calls_of_eq mixedM Try.func49 (F49_eq _ t0 t1 w K) h

/-- mintmark/pte.Index -/
def F50 (P : Program) (t0 t1 : Value) (w : World) (K : Value → World → Prop) : Prop :=
  kV P (binV .lss 3 (.tmp 5) (.const (.int .i64 0)) t1 (.int .i64 0)) w fun v6 w =>
  joinK (fun J0 : Value → World → Prop => gdK (yb v6) false (fun k => k t1 w) w fun v8 w =>
  gdK (yb v6) false (fun k => kV P (binV .geq 3 (.tmp 8) (.const (.int .i64 3)) v8 (.int .i64 3)) w k) w fun v9 w =>
  kN P (pickN v6 (.bool true) v9) w fun v10_1 w =>
  J0 v10_1 w) fun v10 w =>
  condK v10
  (K (.int .i64 0) w)
  (kV P (binV .mul 3 (.const (.int .i64 9)) (.tmp 12) (.int .i64 9) t1) w fun v13 w =>
  kV P (binV .add 3 (.const (.int .i64 12)) (.tmp 13) (.int .i64 12) v13) w fun v14 w =>
  kN P (callN (.func (.func 64) #[] #[]) #[t0, v14, (.int .i64 9)]) w fun v15 w =>
  kV P (convert 23 3 v15) w fun v16 w =>
  K v16 w)
theorem F50_eq (P : Program) (t0 t1 : Value) (w : World) (K : Value → World → Prop) : funE P ⟨[], [], []⟩ Try.f50 [t0, t1] w K = F50 P t0 t1 w K := by kernel_rfl
theorem F50_ok (t0 t1 : Value) (w : World) (K : Value → World → Prop) (h : F50 Try.prog t0 t1 w K) : callsK Try.prog 50 #[t0, t1] w K := calls_of_eq mixedM Try.func50 (F50_eq _ t0 t1 w K) h

/-- mintmark/mintmarkref09.Index -/
def F51 (P : Program) (t0 t1 : Value) (w : World) (K : Value → World → Prop) : Prop :=
  kV P (binV .lss 3 (.tmp 6) (.const (.int .i64 0)) t1 (.int .i64 0)) w fun v7 w =>
  joinK (fun J0 : Value → World → Prop => gdK (yb v7) false (fun k => k t1 w) w fun v9 w =>
  gdK (yb v7) false (fun k => kV P (binV .gtr 3 (.tmp 9) (.const (.int .i64 2)) v9 (.int .i64 2)) w k) w fun v10 w =>
  kN P (pickN v7 (.bool true) v10) w fun v11_1 w =>
  J0 v11_1 w) fun v11 w =>
  condK v11
  (K (.int .i64 0) w)
  (loopT (fun R1 s1 w => ∀ _ : Nat → Value,
  kV P (binV .lss 3 (.tmp 12) (.tmp 13) (s1.getD 1 undef) t1) w fun v14 w =>
  condK v14
  (kV P (binV .quo 23 (.tmp 17) (.const (.int .u64 512)) (s1.getD 0 undef) (.int .u64 512)) w fun v18 w =>
  kV P (binV .add 3 (.tmp 15) (.const (.int .i64 1)) (s1.getD 1 undef) (.int .i64 1)) w fun v16 w =>
  R1 [v18, v16] w)
  (kV P (binV .quo 23 (.tmp 19) (.const (.int .u64 4096)) (s1.getD 0 undef) (.int .u64 4096)) w fun v20 w =>
  kV P (binV .rem 23 (.tmp 20) (.const (.int .u64 512)) v20 (.int .u64 512)) w fun v21 w =>
  kV P (convert 23 3 v21) w fun v22 w =>
  K v22 w)) [t0, (.int .i64 0)] w)
theorem F51_eq (P : Program) (t0 t1 : Value) (w : World) (K : Value → World → Prop) : funE P ⟨[], [(4, [0, 5])], []⟩ Try.f51 [t0, t1] w K = F51 P t0 t1 w K := by kernel_rfl
theorem F51_ok (t0 t1 : Value) (w : World) (K : Value → World → Prop) (h : F51 Try.prog t0 t1 w K) : callsK Try.prog 51 #[t0, t1] w K := calls_of_eq mixedM Try.func51 (F51_eq _ t0 t1 w K) h

/-- mintmark/mintmarkref09.Of -/
def F52 (P : Program) (t0 : Value) (w : World) (K : Value → World → Prop) : Prop :=
  kV P (Instr.alloc 37 true (.tuple #[])) w fun v2 w =>
  kN P (callN (.func (.func 88) #[] #[]) #[t0, (.int .u64 0)]) w fun v5 w =>
  kN P (callN (.func (.func 88) #[] #[]) #[t0, (.int .u64 1)]) w fun v7 w =>
  kN P (callN (.func (.func 88) #[] #[]) #[t0, (.int .u64 2)]) w fun v9 w =>
  kN P (callN (.func (.func 88) #[] #[]) #[t0, (.int .u64 3)]) w fun v11 w =>
  kN P (callN (.func (.func 88) #[] #[]) #[t0, (.int .u64 4)]) w fun v13 w =>
  kN P (callN (.func (.func 88) #[] #[]) #[t0, (.int .u64 5)]) w fun v15 w =>
  kN P (callN (.func (.func 88) #[] #[]) #[t0, (.int .u64 6)]) w fun v17 w =>
  kN P (callN (.func (.func 88) #[] #[]) #[t0, (.int .u64 7)]) w fun v19 w =>
  kV P (Instr.build 37 #[(0, v5), (1, v7), (2, v9), (3, v11), (4, v13), (5, v15), (6, v17), (7, v19)]) w fun v20 w =>
  kV P (Instr.alloc 37 true (.tuple #[])) w fun v3 w =>
  kU P (Instr.storeAt 37 v3 v20) w fun _ w =>
  kN P (callN (.func (.func 88) #[] #[]) #[t0, (.int .u64 58)]) w fun v22 w =>
  kV P (Instr.fieldAt 37 v3 8) w fun v23 w =>
  kU P (Instr.storeAt 4 v23 v22) w fun _ w =>
  kN P (callN (.func (.func 88) #[] #[]) #[t0, (.int .u64 59)]) w fun v25 w =>
  kV P (Instr.fieldAt 37 v3 9) w fun v26 w =>
  kU P (Instr.storeAt 4 v26 v25) w fun _ w =>
  kN P (callN (.func (.func 88) #[] #[]) #[t0, (.int .u64 60)]) w fun v28 w =>
  kV P (Instr.fieldAt 37 v3 10) w fun v29 w =>
  kU P (Instr.storeAt 4 v29 v28) w fun _ w =>
  kN P (callN (.func (.func 88) #[] #[]) #[t0, (.int .u64 61)]) w fun v31 w =>
  kV P (Instr.fieldAt 37 v3 11) w fun v32 w =>
  kU P (Instr.storeAt 4 v32 v31) w fun _ w =>
  kV P (binV .shr 23 (.tmp 33) (.const (.int .u64 10)) t0 (.int .u64 10)) w fun v34 w =>
  kV P (binV .rem 23 (.tmp 34) (.const (.int .u64 17592186044416)) v34 (.int .u64 17592186044416)) w fun v35 w =>
  kV P (Instr.fieldAt 37 v3 12) w fun v36 w =>
  kU P (Instr.storeAt 23 v36 v35) w fun _ w =>
  kV P (Instr.loadAt 37 v3) w fun v37 w =>
  kU P (Instr.storeAt 37 v2 v37) w fun _ w =>
  retV P 37 v2 w fun r0 =>
  K r0 w
theorem F52_eq (P : Program) (t0 : Value) (w : World) (K : Value → World → Prop) : funE P ⟨[], [], []⟩ Try.f52 [t0] w K = F52 P t0 w K := by kernel_rfl
theorem F52_ok (t0 : Value) (w : World) (K : Value → World → Prop) (h : F52 Try.prog t0 w K) : callsK Try.prog 52 #[t0] w K := calls_of_eq mixedM Try.func52 (F52_eq _ t0 w K) h

/-- mintmark/mintmarkref09.Right -/
def F53 (P : Program) (t0 : Value) (w : World) (K : Value → World → Prop) : Prop :=
  kV P (Instr.box 37 t0) w fun v1 w =>
  kV P (Instr.fieldAt 37 v1 0) w fun v3 w =>
  kV P (Instr.loadAt 4 v3) w fun v4 w =>
  kV P (Op.unary .not v4) w fun v5 w =>
  condK v5
  (K (.bool true) w)
  (kV P (Instr.fieldAt 37 v1 2) w fun v6 w =>
  kV P (Instr.loadAt 4 v6) w fun v7 w =>
  joinK (fun J0 : Value → World → Prop => gdK (yb v7) true (fun k => kV P (Instr.fieldAt 37 v1 1) w k) w fun v9 w =>
  gdK (yb v7) true (fun k => kV P (Instr.loadAt 4 v9) w k) w fun v10 w =>
  gdK (yb v7) true (fun k => kV P (Op.unary .not v10) w k) w fun v11 w =>
  kN P (pickN v7 v11 (.bool false)) w fun v12_1 w =>
  J0 v12_1 w) fun v12 w =>
  joinK (fun J1 : Value → World → Prop => gdK (yb v12) false (fun k => kV P (Instr.fieldAt 37 v1 8) w k) w fun v14 w =>
  gdK (yb v12) false (fun k => kV P (Instr.loadAt 4 v14) w k) w fun v15 w =>
  gdK (yb v12) false (fun k => k v15 w) w fun v16 w =>
  gdK (yb v16) true (fun k => kV P (Instr.fieldAt 37 v1 2) w k) w fun v17 w =>
  gdK (yb v16) true (fun k => kV P (Instr.loadAt 4 v17) w k) w fun v18 w =>
  gdK (yb v16) true (fun k => kV P (Op.unary .not v18) w k) w fun v19 w =>
  gdK (yb v12) false (fun k => kN P (pickN v16 v19 (.bool false)) w k) w fun v20 w =>
  kN P (pickN v12 (.bool true) v20) w fun v21_1 w =>
  J1 v21_1 w) fun v21 w =>
  joinK (fun J2 : Value → World → Prop => gdK (yb v21) false (fun k => kV P (Instr.fieldAt 37 v1 9) w k) w fun v23 w =>
  gdK (yb v21) false (fun k => kV P (Instr.loadAt 4 v23) w k) w fun v24 w =>
  gdK (yb v21) false (fun k => k v24 w) w fun v25 w =>
  gdK (yb v25) true (fun k => kV P (Instr.fieldAt 37 v1 1) w k) w fun v26 w =>
  gdK (yb v25) true (fun k => kV P (Instr.loadAt 4 v26) w k) w fun v27 w =>
  gdK (yb v25) true (fun k => kV P (Op.unary .not v27) w k) w fun v28 w =>
  gdK (yb v21) false (fun k => kN P (pickN v25 v28 (.bool false)) w k) w fun v29 w =>
  kN P (pickN v21 (.bool true) v29) w fun v30_1 w =>
  J2 v30_1 w) fun v30 w =>
  joinK (fun J3 : Value → World → Prop => gdK (yb v30) false (fun k => kV P (Instr.fieldAt 37 v1 12) w k) w fun v32 w =>
  gdK (yb v30) false (fun k => kV P (Instr.loadAt 23 v32) w k) w fun v33 w =>
  gdK (yb v30) false (fun k => kV P (binV .geq 23 (.tmp 33) (.const (.int .u64 17592186044416)) v33 (.int .u64 17592186044416)) w k) w fun v34 w =>
  kN P (pickN v30 (.bool true) v34) w fun v35_1 w =>
  J3 v35_1 w) fun v35 w =>
  condK v35
  (K (.bool false) w)
  (kV P (Instr.loadAt 37 v1) w fun v36 w =>
  kN P (callN (.func (.func 54) #[] #[]) #[v36]) w fun v37 w =>
  joinK (fun J4 : Value → World → Prop => gdK (yb v37) false (fun k => kV P (Instr.fieldAt 37 v1 4) w k) w fun v39 w =>
  gdK (yb v37) false (fun k => kV P (Instr.loadAt 4 v39) w k) w fun v40 w =>
  gdK (yb v37) false (fun k => kV P (Op.unary .not v40) w k) w fun v41 w =>
  gdK (yb v37) false (fun k => k v41 w) w fun v42 w =>
  gdK (yb v42) true (fun k => kV P (Instr.fieldAt 37 v1 6) w k) w fun v43 w =>
  gdK (yb v42) true (fun k => kV P (Instr.loadAt 4 v43) w k) w fun v44 w =>
  gdK (yb v42) true (fun k => kV P (Op.unary .not v44) w k) w fun v45 w =>
  gdK (yb v37) false (fun k => kN P (pickN v42 v45 (.bool false)) w k) w fun v46 w =>
  gdK (yb v37) false (fun k => k v46 w) w fun v47 w =>
  gdK (yb v47) true (fun k => kV P (Instr.fieldAt 37 v1 7) w k) w fun v48 w =>
  gdK (yb v47) true (fun k => kV P (Instr.loadAt 4 v48) w k) w fun v49 w =>
  gdK (yb v47) true (fun k => kV P (Op.unary .not v49) w k) w fun v50 w =>
  gdK (yb v37) false (fun k => kN P (pickN v47 v50 (.bool false)) w k) w fun v51 w =>
  gdK (yb v37) false (fun k => k v51 w) w fun v52 w =>
  gdK (yb v52) true (fun k => kV P (Instr.fieldAt 37 v1 8) w k) w fun v53 w =>
  gdK (yb v52) true (fun k => kV P (Instr.loadAt 4 v53) w k) w fun v54 w =>
  gdK (yb v52) true (fun k => kV P (Op.unary .not v54) w k) w fun v55 w =>
  gdK (yb v37) false (fun k => kN P (pickN v52 v55 (.bool false)) w k) w fun v56 w =>
  gdK (yb v37) false (fun k => k v56 w) w fun v57 w =>
  gdK (yb v57) true (fun k => kV P (Instr.fieldAt 37 v1 9) w k) w fun v58 w =>
  gdK (yb v57) true (fun k => kV P (Instr.loadAt 4 v58) w k) w fun v59 w =>
  gdK (yb v57) true (fun k => kV P (Op.unary .not v59) w k) w fun v60 w =>
  gdK (yb v37) false (fun k => kN P (pickN v57 v60 (.bool false)) w k) w fun v61 w =>
  gdK (yb v37) false (fun k => k v61 w) w fun v62 w =>
  gdK (yb v62) true (fun k => kV P (Instr.fieldAt 37 v1 10) w k) w fun v63 w =>
  gdK (yb v62) true (fun k => kV P (Instr.loadAt 4 v63) w k) w fun v64 w =>
  gdK (yb v62) true (fun k => kV P (Op.unary .not v64) w k) w fun v65 w =>
  gdK (yb v37) false (fun k => kN P (pickN v62 v65 (.bool false)) w k) w fun v66 w =>
  gdK (yb v37) false (fun k => k v66 w) w fun v67 w =>
  gdK (yb v67) true (fun k => kV P (Instr.fieldAt 37 v1 11) w k) w fun v68 w =>
  gdK (yb v67) true (fun k => kV P (Instr.loadAt 4 v68) w k) w fun v69 w =>
  gdK (yb v67) true (fun k => kV P (Op.unary .not v69) w k) w fun v70 w =>
  gdK (yb v37) false (fun k => kN P (pickN v67 v70 (.bool false)) w k) w fun v71 w =>
  kN P (pickN v37 (.bool true) v71) w fun v72_1 w =>
  J4 v72_1 w) fun v72 w =>
  K v72 w))
theorem F53_eq (P : Program) (t0 : Value) (w : World) (K : Value → World → Prop) : funE P ⟨[], [], []⟩ Try.f53 [t0] w K = F53 P t0 w K := by kernel_rfl
theorem F53_ok (t0 : Value) (w : World) (K : Value → World → Prop) (h : F53 Try.prog t0 w K) : callsK Try.prog 53 #[t0] w K := calls_of_eq mixedM Try.func53 (F53_eq _ t0 w K) h

/-- mintmark/mintmarkref09.Leaf -/
def F54 (P : Program) (t0 : Value) (w : World) (K : Value → World → Prop) : Prop :=
  kV P (Instr.box 37 t0) w fun v1 w =>
  kV P (Instr.fieldAt 37 v1 0) w fun v3 w =>
  kV P (Instr.loadAt 4 v3) w fun v4 w =>
  joinK (fun J0 : Value → World → Prop => gdK (yb v4) true (fun k => kV P (Instr.fieldAt 37 v1 1) w k) w fun v6 w =>
  gdK (yb v4) true (fun k => kV P (Instr.loadAt 4 v6) w k) w fun v7 w =>
  gdK (yb v4) true (fun k => k v7 w) w fun v8 w =>
  gdK (yb v8) false (fun k => kV P (Instr.fieldAt 37 v1 2) w k) w fun v9 w =>
  gdK (yb v8) false (fun k => kV P (Instr.loadAt 4 v9) w k) w fun v10 w =>
  gdK (yb v4) true (fun k => kN P (pickN v8 (.bool true) v10) w k) w fun v11 w =>
  gdK (yb v4) true (fun k => k v11 w) w fun v12 w =>
  gdK (yb v12) false (fun k => kV P (Instr.fieldAt 37 v1 3) w k) w fun v13 w =>
  gdK (yb v12) false (fun k => kV P (Instr.loadAt 4 v13) w k) w fun v14 w =>
  gdK (yb v4) true (fun k => kN P (pickN v12 (.bool true) v14) w k) w fun v15 w =>
  kN P (pickN v4 v15 (.bool false)) w fun v16_1 w =>
  J0 v16_1 w) fun v16 w =>
  K v16 w
theorem F54_eq (P : Program) (t0 : Value) (w : World) (K : Value → World → Prop) : funE P ⟨[], [], []⟩ Try.f54 [t0] w K = F54 P t0 w K := by kernel_rfl
theorem F54_ok (t0 : Value) (w : World) (K : Value → World → Prop) (h : F54 Try.prog t0 w K) : callsK Try.prog 54 #[t0] w K := calls_of_eq mixedM Try.func54 (F54_eq _ t0 w K) h

/-- mintmark/ram.number -/
def F55 (P : Program) (t0 : Value) (w : World) (K : Value → World → Prop) : Prop :=
  joinL (fun J0 =>
  kV P (binV .eql 3 (.tmp 4) (.const (.int .i64 1)) t0 (.int .i64 1)) w fun v6 w =>
  condK v6
  (J0 [v6] w)
  (kV P (binV .eql 3 (.tmp 4) (.const (.int .i64 2)) t0 (.int .i64 2)) w fun v7 w =>
  condK v7
  (J0 [v7] w)
  (kV P (binV .eql 3 (.tmp 4) (.const (.int .i64 4)) t0 (.int .i64 4)) w fun v8 w =>
  condK v8
  (J0 [v8] w)
  (kV P (binV .eql 3 (.tmp 4) (.const (.int .i64 8)) t0 (.int .i64 8)) w fun v9 w =>
  J0 [v9] w)))) fun s0 w => ∀ _ : Nat → Value,
  condK (s0.getD 0 undef)
  (kV P (convert 3 23 t0) w fun v11 w =>
  K (.tuple #[v11, (.bool true)]) w)
  (K (.tuple #[(.int .u64 1), (.bool false)]) w)
theorem F55_eq (P : Program) (t0 : Value) (w : World) (K : Value → World → Prop) : funE P ⟨[], [], [(6, [5])]⟩ Try.f55 [t0] w K = F55 P t0 w K := by kernel_rfl
theorem F55_ok (t0 : Value) (w : World) (K : Value → World → Prop) (h : F55 Try.prog t0 w K) : callsK Try.prog 55 #[t0] w K := calls_of_eq mixedM Try.func55 (F55_eq _ t0 w K) h

/-- (*mintmark/ram.Ram).place -/
def F56 (P : Program) (t0 t1 t2 : Value) (w : World) (K : Value → World → Prop) : Prop :=
  kN P (callN (.func (.func 87) #[] #[]) #[t0]) w fun v11 w =>
  condK v11
  (K (.tuple #[(.pointer none), (.int .i64 0), (.int .i64 1)]) w)
  (kV P (binV .rem 23 (.tmp 13) (.tmp 14) t1 t2) w fun v15 w =>
  kV P (binV .neq 23 (.tmp 15) (.const (.int .u64 0)) v15 (.int .u64 0)) w fun v16 w =>
  joinK (fun J0 : Value → World → Prop => gdK (yb v16) false (fun k => k t1 w) w fun v18 w =>
  gdK (yb v16) false (fun k => kV P (binV .quo 23 (.tmp 18) (.const (.int .u64 4096)) v18 (.int .u64 4096)) w k) w fun v19 w =>
  gdK (yb v16) false (fun k => k t0 w) w fun v20 w =>
  gdK (yb v16) false (fun k => kN P (nilN v20) w k) w fun v21 w =>
  gdK (yb v16) false (fun k => kV P (Instr.fieldAt 167 v21 0) w k) w fun v22 w =>
  gdK (yb v16) false (fun k => kV P (Instr.loadAt 165 v22) w k) w fun v23 w =>
  gdK (yb v16) false (fun k => kV P (Builtin.len_ #[165] 3 #[v23]) w k) w fun v24 w =>
  gdK (yb v16) false (fun k => kV P (convert 3 23 v24) w k) w fun v25 w =>
  gdK (yb v16) false (fun k => kV P (binV .geq 23 (.tmp 19) (.tmp 25) v19 v25) w k) w fun v26 w =>
  kN P (pickN v16 (.bool true) v26) w fun v27_1 w =>
  J0 v27_1 w) fun v27 w =>
  condK v27
  (K (.tuple #[(.pointer none), (.int .i64 0), (.int .i64 2)]) w)
  (kN P (nilN t0) w fun v29 w =>
  kV P (Instr.fieldAt 167 v29 0) w fun v30 w =>
  kV P (Instr.loadAt 165 v30) w fun v31 w =>
  kV P (binV .quo 23 (.tmp 32) (.const (.int .u64 4096)) t1 (.int .u64 4096)) w fun v33 w =>
  kV P (Instr.indexAt 165 v31 v33) w fun v34 w =>
  kV P (binV .rem 23 (.tmp 35) (.const (.int .u64 4096)) t1 (.int .u64 4096)) w fun v36 w =>
  kV P (convert 23 3 v36) w fun v37 w =>
  K (.tuple #[v34, v37, (.int .i64 0)]) w))
theorem F56_eq (P : Program) (t0 t1 t2 : Value) (w : World) (K : Value → World → Prop) : funE P ⟨[], [], []⟩ Try.f56 [t0, t1, t2] w K = F56 P t0 t1 t2 w K := by kernel_rfl
theorem F56_ok (t0 t1 t2 : Value) (w : World) (K : Value → World → Prop) (h : F56 Try.prog t0 t1 t2 w K) : callsK Try.prog 56 #[t0, t1, t2] w K := calls_of_eq mixedM Try.func56 (F56_eq _ t0 t1 t2 w K) h

/-- mintmark/ram.each -/
def F57 (P : Program) (t0 t1 : Value) (w : World) (K : Value → World → Prop) : Prop :=
  loopT (fun R0 s0 w => ∀ _ : Nat → Value,
  kV P (binV .lss 3 (.tmp 6) (.tmp 5) (s0.getD 0 undef) t0) w fun v7 w =>
  condK v7
  (kN P (callN t1 #[(s0.getD 0 undef)]) w fun v11 w =>
  kV P (binV .add 3 (.tmp 6) (.const (.int .i64 1)) (s0.getD 0 undef) (.int .i64 1)) w fun v12 w =>
  R0 [v12] w)
  (K (.tuple #[]) w)) [(.int .i64 0)] w
theorem F57_eq (P : Program) (t0 t1 : Value) (w : World) (K : Value → World → Prop) : funE P ⟨[], [(1, [6])], []⟩ Try.f57 [t0, t1] w K = F57 P t0 t1 w K := by kernel_rfl
theorem F57_ok (t0 t1 : Value) (w : World) (K : Value → World → Prop) (h : F57 Try.prog t0 t1 w K) : callsK Try.prog 57 #[t0, t1] w K := calls_of_eq mixedM Try.func57 (F57_eq _ t0 t1 w K) h

/-- (*mintmark/ram.Ram).Store$1 -/
def F58 (P : Program) (t0 t1 t2 t3 : Value) (w : World) (K : Value → World → Prop) : Prop :=
  drewK (fun w =>
  sV P (Instr.loadAt 121 t2) w fun v5 =>
  sV P (Instr.loadAt 3 t3) w fun v6 =>
  sV P (binV .add 3 (.tmp 6) (.tmp 7) v6 t0) w fun v8 =>
  sV P (Instr.loadAt 23 t1) w fun v9 =>
  sV P (binV .mul 3 (.const (.int .i64 8)) (.tmp 10) (.int .i64 8) t0) w fun v11 =>
  sV P (binV .shr 23 (.tmp 9) (.tmp 11) v9 v11) w fun v12 =>
  sV P (convert 23 5 v12) w fun v13 =>
  sN P (nilN v5) w fun v14 =>
  sV P (Instr.fieldAt 129 v14 0) w fun v15 =>
  kV P (Instr.indexAt 125 v15 v8) w fun v16 w =>
  kU P (Instr.storeAt 5 v16 v13) w fun _ w =>
  K (.tuple #[]) w) w
theorem F58_eq (P : Program) (t0 t1 t2 t3 : Value) (w : World) (K : Value → World → Prop) : funE P ⟨[(0, 11)], [], []⟩ Try.f58 [t0, t1, t2, t3] w K = F58 P t0 t1 t2 t3 w K := by kernel_rfl
theorem F58_ok (t0 t1 t2 t3 : Value) (w : World) (K : Value → World → Prop) (h : F58 Try.prog t0 t1 t2 t3 w K) : callsK Try.prog 58 #[t0, t1, t2, t3] w K := calls_of_eq mixedM Try.func58 (F58_eq _ t0 t1 t2 t3 w K) h

/-- (mintmark/tags.Set).Without -/
def F59 (P : Program) (t0 t1 : Value) (w : World) (K : Value → World → Prop) : Prop :=
  kV P (Instr.box 127 t0) w fun v2 w =>
  kV P (Instr.box 127 t1) w fun v3 w =>
  kV P (Instr.alloc 127 true (.tuple #[])) w fun v4 w =>
  loopT (fun R0 s0 w => ∀ _ : Nat → Value,
  kV P (binV .lss 3 (.tmp 6) (.const (.int .i64 4)) (s0.getD 0 undef) (.int .i64 4)) w fun v7 w =>
  condK v7
  (drewK (fun w =>
  sV P (Instr.indexAt 127 v2 (s0.getD 0 undef)) w fun v10 =>
  sV P (Instr.loadAt 23 v10) w fun v11 =>
  sV P (Instr.indexAt 127 v3 (s0.getD 0 undef)) w fun v13 =>
  sV P (Instr.loadAt 23 v13) w fun v14 =>
  kV P (binV .andNot 23 (.tmp 11) (.tmp 14) v11 v14) w fun v15 w =>
  kV P (Instr.indexAt 127 v2 (s0.getD 0 undef)) w fun v16 w =>
  kU P (Instr.storeAt 23 v16 v15) w fun _ w =>
  kV P (binV .add 3 (.tmp 6) (.const (.int .i64 1)) (s0.getD 0 undef) (.int .i64 1)) w fun v17 w =>
  R0 [v17] w) w)
  (kV P (Instr.loadAt 127 v2) w fun v18 w =>
  kU P (Instr.storeAt 127 v4 v18) w fun _ w =>
  retV P 127 v4 w fun r2 =>
  K r2 w)) [(.int .i64 0)] w
theorem F59_eq (P : Program) (t0 t1 : Value) (w : World) (K : Value → World → Prop) : funE P ⟨[(4, 6)], [(2, [6])], []⟩ Try.f59 [t0, t1] w K = F59 P t0 t1 w K := by kernel_rfl
theorem F59_ok (t0 t1 : Value) (w : World) (K : Value → World → Prop) (h : F59 Try.prog t0 t1 w K) : callsK Try.prog 59 #[t0, t1] w K := calls_of_eq mixedM Try.func59 (F59_eq _ t0 t1 w K) h

/-- mintmark/tags.Cover -/
def F60 (P : Program) (t0 t1 : Value) (w : World) (K : Value → World → Prop) : Prop :=
  kV P (Instr.alloc 127 true (.tuple #[])) w fun v4 w =>
  kV P (Instr.alloc 127 true (.tuple #[])) w fun v5 w =>
  kV P (binV .lss 3 (.tmp 8) (.const (.int .i64 1)) t1 (.int .i64 1)) w fun v9 w =>
  joinK (fun J0 : Value → World → Prop => gdK (yb v9) false (fun k => k t0 w) w fun v11 w =>
  gdK (yb v9) false (fun k => kV P (binV .geq 3 (.tmp 11) (.const (.int .i64 4096)) v11 (.int .i64 4096)) w k) w fun v12 w =>
  kN P (pickN v9 (.bool true) v12) w fun v13_1 w =>
  J0 v13_1 w) fun v13 w =>
  condK v13
  (kV P (Instr.loadAt 127 v5) w fun v14 w =>
  kU P (Instr.storeAt 127 v4 v14) w fun _ w =>
  retV P 127 v4 w fun r1 =>
  K r1 w)
  (joinL (fun J2 =>
  kV P (binV .lss 3 (.tmp 15) (.const (.int .i64 0)) t0 (.int .i64 0)) w fun v16 w =>
  condK v16
  (kV P (binV .lss 3 (.tmp 17) (.const (.int .i64 (-4096))) t0 (.int .i64 (-4096))) w fun v18 w =>
  joinK (fun J8 : Value → World → Prop => gdK (yb v18) true (fun k => k t0 w) w fun v20 w =>
  gdK (yb v18) true (fun k => k t1 w) w fun v21 w =>
  gdK (yb v18) true (fun k => kV P (binV .add 3 (.tmp 20) (.tmp 21) v20 v21) w k) w fun v22 w =>
  gdK (yb v18) true (fun k => kV P (binV .leq 3 (.tmp 22) (.const (.int .i64 0)) v22 (.int .i64 0)) w k) w fun v23 w =>
  kN P (pickN v18 v23 (.bool false)) w fun v24_1 w =>
  J8 v24_1 w) fun v24 w =>
  joinK (fun J9 : Value → World → Prop => gdK (yb v24) false (fun k => k t1 w) w fun v26 w =>
  gdK (yb v24) false (fun k => k t0 w) w fun v27 w =>
  gdK (yb v24) false (fun k => kV P (Op.unary .neg v27) w k) w fun v28 w =>
  gdK (yb v24) false (fun k => kV P (binV .leq 3 (.tmp 26) (.tmp 28) v26 v28) w k) w fun v29 w =>
  kN P (pickN v24 (.bool true) v29) w fun v30_1 w =>
  J9 v30_1 w) fun v30 w =>
  condK v30
  (kV P (Instr.loadAt 127 v5) w fun v31 w =>
  kU P (Instr.storeAt 127 v4 v31) w fun _ w =>
  retV P 127 v4 w fun r10 =>
  K r10 w)
  (kV P (binV .add 3 (.tmp 32) (.tmp 33) t1 t0) w fun v34 w =>
  J2 [(.int .i64 0), v34] w))
  (J2 [t0, t1] w)) fun s2 w => ∀ _ : Nat → Value,
  kV P (binV .sub 3 (.const (.int .i64 4096)) (.tmp 37) (.int .i64 4096) (s2.getD 0 undef)) w fun v38 w =>
  kV P (Builtin.min_ #[3, 3] 3 #[(s2.getD 1 undef), v38]) w fun v39 w =>
  kV P (binV .add 3 (.tmp 35) (.tmp 39) (s2.getD 0 undef) v39) w fun v40 w =>
  kV P (binV .sub 3 (.tmp 40) (.const (.int .i64 1)) v40 (.int .i64 1)) w fun v41 w =>
  loopT (fun R4 s4 w => ∀ _ : Nat → Value,
  kV P (binV .lss 3 (.tmp 42) (.const (.int .i64 256)) (s4.getD 0 undef) (.int .i64 256)) w fun v43 w =>
  condK v43
  (kV P (Instr.loadAt 127 v5) w fun v45 w =>
  kV P (binV .quo 3 (.tmp 48) (.const (.int .i64 16)) (s2.getD 0 undef) (.int .i64 16)) w fun v49 w =>
  kV P (binV .geq 3 (.tmp 47) (.tmp 49) (s4.getD 0 undef) v49) w fun v50 w =>
  joinK (fun J6 : Value → World → Prop => gdK (yb v50) true (fun k => k (s4.getD 0 undef) w) w fun v52 w =>
  gdK (yb v50) true (fun k => k v41 w) w fun v53 w =>
  gdK (yb v50) true (fun k => kV P (binV .quo 3 (.tmp 53) (.const (.int .i64 16)) v53 (.int .i64 16)) w k) w fun v54 w =>
  gdK (yb v50) true (fun k => kV P (binV .leq 3 (.tmp 52) (.tmp 54) v52 v54) w k) w fun v55 w =>
  kN P (pickN v50 v55 (.bool false)) w fun v56_1 w =>
  J6 v56_1 w) fun v56 w =>
  kN P (callN (.func (.func 89) #[] #[]) #[v45, (s4.getD 0 undef), v56]) w fun v57 w =>
  kU P (Instr.storeAt 127 v5 v57) w fun _ w =>
  kV P (binV .add 3 (.tmp 42) (.const (.int .i64 1)) (s4.getD 0 undef) (.int .i64 1)) w fun v58 w =>
  R4 [v58] w)
  (kV P (Instr.loadAt 127 v5) w fun v59 w =>
  kU P (Instr.storeAt 127 v4 v59) w fun _ w =>
  retV P 127 v4 w fun r7 =>
  K r7 w)) [(.int .i64 0)] w)
theorem F60_eq (P : Program) (t0 t1 : Value) (w : World) (K : Value → World → Prop) : funE P ⟨[], [(10, [42])], [(8, [0, 1])]⟩ Try.f60 [t0, t1] w K = F60 P t0 t1 w K := by kernel_rfl
theorem F60_ok (t0 t1 : Value) (w : World) (K : Value → World → Prop) (h : F60 Try.prog t0 t1 w K) : callsK Try.prog 60 #[t0, t1] w K := calls_of_eq mixedM Try.func60 (F60_eq _ t0 t1 w K) h

/-- mintmark/field.Put -/
def F61 (P : Program) (t0 t1 t2 t3 : Value) (w : World) (K : Value → World → Prop) : Prop :=
  kN P (callN (.func (.func 90) #[] #[]) #[t1, t2]) w fun v12 w =>
  kV P (Op.unary .not v12) w fun v13 w =>
  condK v13
  (K t0 w)
  (kN P (callN (.func (.func 65) #[] #[]) #[t2]) w fun v16 w =>
  drewK (fun w =>
  sV P (binV .shl 23 (.tmp 18) (.tmp 19) v16 t1) w fun v20 =>
  sV P (binV .andNot 23 (.tmp 17) (.tmp 20) t0 v20) w fun v21 =>
  sV P (binV .and 23 (.tmp 22) (.tmp 23) t3 v16) w fun v24 =>
  sV P (binV .shl 23 (.tmp 24) (.tmp 25) v24 t1) w fun v26 =>
  sV P (binV .or 23 (.tmp 21) (.tmp 26) v21 v26) w fun v27 =>
  K v27 w) w)
theorem F61_eq (P : Program) (t0 t1 t2 t3 : Value) (w : World) (K : Value → World → Prop) : funE P ⟨[], [], []⟩ Try.f61 [t0, t1, t2, t3] w K = F61 P t0 t1 t2 t3 w K := by kernel_rfl
theorem F61_ok (t0 t1 t2 t3 : Value) (w : World) (K : Value → World → Prop) (h : F61 Try.prog t0 t1 t2 t3 w K) : callsK Try.prog 61 #[t0, t1, t2, t3] w K := calls_of_eq mixedM Try.func61 (F61_eq _ t0 t1 t2 t3 w K) h

/-- (*mintmark/pte.Entry).flagsOf -/
def F62 (P : Program) (t0 : Value) (w : World) (K : Value → World → Prop) : Prop :=
  kV P (Instr.alloc 134 true (.tuple #[])) w fun v2 w =>
  drewK (fun w =>
  sN P (nilN t0) w fun v4 =>
  sV P (Instr.fieldAt 32 v4 0) w fun v5 =>
  sN P (nilN t0) w fun v7 =>
  sV P (Instr.fieldAt 32 v7 1) w fun v8 =>
  sN P (nilN t0) w fun v10 =>
  sV P (Instr.fieldAt 32 v10 2) w fun v11 =>
  sN P (nilN t0) w fun v13 =>
  sV P (Instr.fieldAt 32 v13 3) w fun v14 =>
  sN P (nilN t0) w fun v16 =>
  sV P (Instr.fieldAt 32 v16 4) w fun v17 =>
  sN P (nilN t0) w fun v19 =>
  sV P (Instr.fieldAt 32 v19 5) w fun v20 =>
  sN P (nilN t0) w fun v22 =>
  sV P (Instr.fieldAt 32 v22 6) w fun v23 =>
  sN P (nilN t0) w fun v25 =>
  sV P (Instr.fieldAt 32 v25 7) w fun v26 =>
  sN P (nilN t0) w fun v28 =>
  sV P (Instr.fieldAt 32 v28 8) w fun v29 =>
  sN P (nilN t0) w fun v31 =>
  sV P (Instr.fieldAt 32 v31 9) w fun v32 =>
  sN P (nilN t0) w fun v34 =>
  sV P (Instr.fieldAt 32 v34 10) w fun v35 =>
  sN P (nilN t0) w fun v37 =>
  sV P (Instr.fieldAt 32 v37 11) w fun v38 =>
  kV P (Instr.build 134 #[(0, v5), (1, v8), (2, v11), (3, v14), (4, v17), (5, v20), (6, v23), (7, v26), (8, v29), (9, v32), (10, v35), (11, v38)]) w fun v39 w =>
  kU P (Instr.storeAt 134 v2 v39) w fun _ w =>
  retV P 134 v2 w fun r0 =>
  K r0 w) w
theorem F62_eq (P : Program) (t0 : Value) (w : World) (K : Value → World → Prop) : funE P ⟨[(1, 36)], [], []⟩ Try.f62 [t0] w K = F62 P t0 w K := by kernel_rfl
theorem F62_ok (t0 : Value) (w : World) (K : Value → World → Prop) (h : F62 Try.prog t0 w K) : callsK Try.prog 62 #[t0] w K := calls_of_eq mixedM Try.func62 (F62_eq _ t0 w K) h

/-- mintmark/pte.places -/
def F63 (P : Program) (w : World) (K : Value → World → Prop) : Prop :=
  kV P (Instr.alloc 136 true (.tuple #[])) w fun v0 w =>
  kV P (Instr.build 136 #[(0, (.int .i64 0)), (1, (.int .i64 1)), (2, (.int .i64 2)), (3, (.int .i64 3)), (4, (.int .i64 4)), (5, (.int .i64 5)), (6, (.int .i64 6)), (7, (.int .i64 7)), (8, (.int .i64 58)), (9, (.int .i64 59)), (10, (.int .i64 60)), (11, (.int .i64 61))]) w fun v1 w =>
  kU P (Instr.storeAt 136 v0 v1) w fun _ w =>
  retV P 136 v0 w fun r0 =>
  K r0 w
theorem F63_eq (P : Program) (w : World) (K : Value → World → Prop) : funE P ⟨[], [], []⟩ Try.f63 [] w K = F63 P  w K := by kernel_rfl
theorem F63_ok (w : World) (K : Value → World → Prop) (h : F63 Try.prog  w K) : callsK Try.prog 63 #[] w K := calls_of_eq mixedM Try.func63 (F63_eq _  w K) h

/-- mintmark/field.Get -/
def F64 (P : Program) (t0 t1 t2 : Value) (w : World) (K : Value → World → Prop) : Prop :=
  kN P (callN (.func (.func 90) #[] #[]) #[t1, t2]) w fun v9 w =>
  kV P (Op.unary .not v9) w fun v10 w =>
  condK v10
  (K (.int .u64 0) w)
  (drewK (fun w =>
  pV P (binV .shr 23 (.tmp 11) (.tmp 12) t0 t1) fun v13 =>
  kN P (callN (.func (.func 65) #[] #[]) #[t2]) w fun v15 w =>
  pV P (binV .and 23 (.tmp 13) (.tmp 15) v13 v15) fun v16 =>
  K v16 w) w)
theorem F64_eq (P : Program) (t0 t1 t2 : Value) (w : World) (K : Value → World → Prop) : funE P ⟨[(3, 999)], [], []⟩ Try.f64 [t0, t1, t2] w K = F64 P t0 t1 t2 w K := by kernel_rfl
theorem F64_ok (t0 t1 t2 : Value) (w : World) (K : Value → World → Prop) (h : F64 Try.prog t0 t1 t2 w K) : callsK Try.prog 64 #[t0, t1, t2] w K := calls_of_eq mixedM Try.func64 (F64_eq _ t0 t1 t2 w K) h

/-- mintmark/field.Mask -/
def F65 (P : Program) (t0 : Value) (w : World) (K : Value → World → Prop) : Prop :=
  kV P (binV .lss 3 (.tmp 4) (.const (.int .i64 1)) t0 (.int .i64 1)) w fun v5 w =>
  condK v5
  (K (.int .u64 0) w)
  (kV P (binV .geq 3 (.tmp 7) (.const (.int .i64 64)) t0 (.int .i64 64)) w fun v8 w =>
  condK v8
  (K (.int .u64 18446744073709551615) w)
  (kV P (binV .shl 23 (.const (.int .u64 1)) (.tmp 9) (.int .u64 1) t0) w fun v10 w =>
  kV P (binV .sub 23 (.tmp 10) (.const (.int .u64 1)) v10 (.int .u64 1)) w fun v11 w =>
  K v11 w))
theorem F65_eq (P : Program) (t0 : Value) (w : World) (K : Value → World → Prop) : funE P ⟨[], [], []⟩ Try.f65 [t0] w K = F65 P t0 w K := by kernel_rfl
theorem F65_ok (t0 : Value) (w : World) (K : Value → World → Prop) (h : F65 Try.prog t0 w K) : callsK Try.prog 65 #[t0] w K := calls_of_eq mixedM Try.func65 (F65_eq _ t0 w K) h

/-- mintmark/walk.lets -/
def F66 (P : Program) (t0 t1 : Value) (w : World) (K : Value → World → Prop) : Prop :=
  kV P (Instr.box 32 t0) w fun v2 w =>
  kV P (binV .eql 3 (.tmp 5) (.const (.int .i64 0)) t1 (.int .i64 0)) w fun v7 w =>
  condK v7
  (kV P (Instr.fieldAt 32 v2 3) w fun v8 w =>
  kV P (Instr.loadAt 4 v8) w fun v9 w =>
  K v9 w)
  (joinL (fun J0 =>
  kV P (binV .eql 3 (.tmp 5) (.const (.int .i64 1)) t1 (.int .i64 1)) w fun v11 w =>
  condK v11
  (J0 [v11] w)
  (kV P (binV .eql 3 (.tmp 5) (.const (.int .i64 3)) t1 (.int .i64 3)) w fun v12 w =>
  J0 [v12] w)) fun s0 w => ∀ _ : Nat → Value,
  condK (s0.getD 0 undef)
  (kV P (Instr.fieldAt 32 v2 1) w fun v13 w =>
  kV P (Instr.loadAt 4 v13) w fun v14 w =>
  K v14 w)
  (joinL (fun J2 =>
  kV P (binV .eql 3 (.tmp 5) (.const (.int .i64 2)) t1 (.int .i64 2)) w fun v16 w =>
  condK v16
  (J2 [v16] w)
  (kV P (binV .eql 3 (.tmp 5) (.const (.int .i64 4)) t1 (.int .i64 4)) w fun v17 w =>
  J2 [v17] w)) fun s2 w => ∀ _ : Nat → Value,
  condK (s2.getD 0 undef)
  (kV P (Instr.fieldAt 32 v2 2) w fun v18 w =>
  kV P (Instr.loadAt 4 v18) w fun v19 w =>
  K v19 w)
  (K (.bool false) w)))
theorem F66_eq (P : Program) (t0 t1 : Value) (w : World) (K : Value → World → Prop) : funE P ⟨[], [], [(6, [10]), (9, [15])]⟩ Try.f66 [t0, t1] w K = F66 P t0 t1 w K := by kernel_rfl
theorem F66_ok (t0 t1 : Value) (w : World) (K : Value → World → Prop) (h : F66 Try.prog t0 t1 w K) : callsK Try.prog 66 #[t0, t1] w K := calls_of_eq mixedM Try.func66 (F66_eq _ t0 t1 w K) h

/-- mintmark/walk.Marked$1 -/
def F67 (P : Program) (t0 t1 : Value) (w : World) (K : Value → World → Prop) : Prop :=
  kN P (nilN t0) w fun v6 w =>
  kV P (Instr.loadAt 4 v6) w fun v7 w =>
  joinK (fun J0 : Value → World → Prop => gdK (yb v7) false (fun k => k t1 w) w fun v9 w =>
  kN P (pickN v7 (.bool true) v9) w fun v10_1 w =>
  J0 v10_1 w) fun v10 w =>
  kN P (nilN t0) w fun v11 w =>
  kU P (Instr.storeAt 4 v11 v10) w fun _ w =>
  K (.tuple #[]) w
theorem F67_eq (P : Program) (t0 t1 : Value) (w : World) (K : Value → World → Prop) : funE P ⟨[], [], []⟩ Try.f67 [t0, t1] w K = F67 P t0 t1 w K := by kernel_rfl
theorem F67_ok (t0 t1 : Value) (w : World) (K : Value → World → Prop) (h : F67 Try.prog t0 t1 w K) : callsK Try.prog 67 #[t0, t1] w K := calls_of_eq mixedM Try.func67 (F67_eq _ t0 t1 w K) h

/-- (*mintmark/ram.Ram).Load$1 -/
def F73 (P : Program) (t0 t1 t2 t3 : Value) (w : World) (K : Value → World → Prop) : Prop :=
  drewK (fun w =>
  sV P (Instr.loadAt 23 t1) w fun v5 =>
  sV P (Instr.loadAt 121 t2) w fun v6 =>
  sV P (Instr.loadAt 3 t3) w fun v7 =>
  sV P (binV .add 3 (.tmp 7) (.tmp 8) v7 t0) w fun v9 =>
  sN P (nilN v6) w fun v10 =>
  sV P (Instr.fieldAt 129 v10 0) w fun v11 =>
  sV P (Instr.indexAt 125 v11 v9) w fun v12 =>
  sV P (Instr.loadAt 5 v12) w fun v13 =>
  sV P (convert 5 23 v13) w fun v14 =>
  sV P (binV .mul 3 (.const (.int .i64 8)) (.tmp 15) (.int .i64 8) t0) w fun v16 =>
  sV P (binV .shl 23 (.tmp 14) (.tmp 16) v14 v16) w fun v17 =>
  kV P (binV .or 23 (.tmp 5) (.tmp 17) v5 v17) w fun v18 w =>
  kU P (Instr.storeAt 23 t1 v18) w fun _ w =>
  K (.tuple #[]) w) w
theorem F73_eq (P : Program) (t0 t1 t2 t3 : Value) (w : World) (K : Value → World → Prop) : funE P ⟨[(0, 13)], [], []⟩ Try.f73 [t0, t1, t2, t3] w K = F73 P t0 t1 t2 t3 w K := by kernel_rfl
theorem F73_ok (t0 t1 t2 t3 : Value) (w : World) (K : Value → World → Prop) (h : F73 Try.prog t0 t1 t2 t3 w K) : callsK Try.prog 73 #[t0, t1, t2, t3] w K := calls_of_eq mixedM Try.func73 (F73_eq _ t0 t1 t2 t3 w K) h

/-- (mintmark/mintmarkref08.Ram).may -/
def F79 (P : Program) (t0 t1 t2 : Value) (w : World) (K : Value → World → Prop) : Prop :=
  kV P (Instr.box 28 t0) w fun v3 w =>
  kV P (binV .eql 3 (.tmp 7) (.const (.int .i64 1)) t2 (.int .i64 1)) w fun v8 w =>
  joinK (fun J0 : Value → World → Prop => gdK (yb v8) false (fun k => k t2 w) w fun v10 w =>
  gdK (yb v8) false (fun k => kV P (binV .eql 3 (.tmp 10) (.const (.int .i64 2)) v10 (.int .i64 2)) w k) w fun v11 w =>
  kN P (pickN v8 (.bool true) v11) w fun v12_1 w =>
  J0 v12_1 w) fun v12 w =>
  joinK (fun J1 : Value → World → Prop => gdK (yb v12) false (fun k => k t2 w) w fun v14 w =>
  gdK (yb v12) false (fun k => kV P (binV .eql 3 (.tmp 14) (.const (.int .i64 4)) v14 (.int .i64 4)) w k) w fun v15 w =>
  kN P (pickN v12 (.bool true) v15) w fun v16_1 w =>
  J1 v16_1 w) fun v16 w =>
  joinK (fun J2 : Value → World → Prop => gdK (yb v16) false (fun k => k t2 w) w fun v18 w =>
  gdK (yb v16) false (fun k => kV P (binV .eql 3 (.tmp 18) (.const (.int .i64 8)) v18 (.int .i64 8)) w k) w fun v19 w =>
  kN P (pickN v16 (.bool true) v19) w fun v20_1 w =>
  J2 v20_1 w) fun v20 w =>
  joinK (fun J3 : Value → World → Prop => gdK (yb v20) true (fun k => k t1 w) w fun v22 w =>
  gdK (yb v20) true (fun k => k t2 w) w fun v23 w =>
  gdK (yb v20) true (fun k => kV P (convert 3 23 v23) w k) w fun v24 w =>
  gdK (yb v20) true (fun k => kV P (binV .rem 23 (.tmp 22) (.tmp 24) v22 v24) w k) w fun v25 w =>
  gdK (yb v20) true (fun k => kV P (binV .eql 23 (.tmp 25) (.const (.int .u64 0)) v25 (.int .u64 0)) w k) w fun v26 w =>
  kN P (pickN v20 v26 (.bool false)) w fun v27_1 w =>
  J3 v27_1 w) fun v27 w =>
  joinK (fun J4 : Value → World → Prop => gdK (yb v27) true (fun k => k t1 w) w fun v29 w =>
  gdK (yb v27) true (fun k => kV P (Instr.loadAt 28 v3) w k) w fun v30 w =>
  gdK (yb v27) true (fun k => kN P (callN (.func (.func 94) #[] #[]) #[v30]) w k) w fun v31 w =>
  gdK (yb v27) true (fun k => kV P (binV .lss 23 (.tmp 29) (.tmp 31) v29 v31) w k) w fun v32 w =>
  kN P (pickN v27 v32 (.bool false)) w fun v33_1 w =>
  J4 v33_1 w) fun v33 w =>
  K v33 w
theorem F79_eq (P : Program) (t0 t1 t2 : Value) (w : World) (K : Value → World → Prop) : funE P ⟨[], [], []⟩ Try.f79 [t0, t1, t2] w K = F79 P t0 t1 t2 w K := by kernel_rfl
theorem F79_ok (t0 t1 t2 : Value) (w : World) (K : Value → World → Prop) (h : F79 Try.prog t0 t1 t2 w K) : callsK Try.prog 79 #[t0, t1, t2] w K := calls_of_eq mixedM Try.func79 (F79_eq _ t0 t1 t2 w K) h

/-- (mintmark/mintmarkref08.Ram).lay -/
def F80 (P : Program) (t0 t1 t2 : Value) (w : World) (K : Value → World → Prop) : Prop :=
  kV P (Instr.box 28 t0) w fun v3 w =>
  kV P (Instr.alloc 28 true (.tuple #[])) w fun v6 w =>
  kV P (Instr.buildSlice 25 0 #[]) w fun v7 w =>
  kV P (Instr.fieldAt 28 v3 1) w fun v8 w =>
  kV P (Instr.loadAt 25 v8) w fun v9 w =>
  kV P (Builtin.append_ #[25, 25] 25 #[v7, v9]) w fun v10 w =>
  kV P (Instr.buildSlice 25 1 #[(0, t1)]) w fun v12 w =>
  kV P (Builtin.append_ #[25, 25] 25 #[v10, v12]) w fun v13 w =>
  kV P (Instr.fieldAt 28 v3 1) w fun v14 w =>
  kU P (Instr.storeAt 25 v14 v13) w fun _ w =>
  kV P (Instr.buildSlice 26 0 #[]) w fun v15 w =>
  kV P (Instr.fieldAt 28 v3 2) w fun v16 w =>
  kV P (Instr.loadAt 26 v16) w fun v17 w =>
  kV P (Builtin.append_ #[26, 26] 26 #[v15, v17]) w fun v18 w =>
  kV P (Instr.buildSlice 26 1 #[(0, t2)]) w fun v20 w =>
  kV P (Builtin.append_ #[26, 26] 26 #[v18, v20]) w fun v21 w =>
  kV P (Instr.fieldAt 28 v3 2) w fun v22 w =>
  kU P (Instr.storeAt 26 v22 v21) w fun _ w =>
  kV P (Instr.loadAt 28 v3) w fun v23 w =>
  kV P (binV .quo 23 (.tmp 24) (.const (.int .u64 16)) t1 (.int .u64 16)) w fun v25 w =>
  kV P (binV .mul 23 (.tmp 25) (.const (.int .u64 16)) v25 (.int .u64 16)) w fun v26 w =>
  kN P (callN (.func (.func 95) #[] #[]) #[v23, v26]) w fun v27 w =>
  kU P (Instr.storeAt 28 v6 v27) w fun _ w =>
  retV P 28 v6 w fun r0 =>
  K r0 w
theorem F80_eq (P : Program) (t0 t1 t2 : Value) (w : World) (K : Value → World → Prop) : funE P ⟨[], [], []⟩ Try.f80 [t0, t1, t2] w K = F80 P t0 t1 t2 w K := by kernel_rfl
theorem F80_ok (t0 t1 t2 : Value) (w : World) (K : Value → World → Prop) (h : F80 Try.prog t0 t1 t2 w K) : callsK Try.prog 80 #[t0, t1, t2] w K := calls_of_eq mixedM Try.func80 (F80_eq _ t0 t1 t2 w K) h

/-- mintmark/mintmarkref09.bit -/
def F81 (P : Program) (t0 t1 : Value) (w : World) (K : Value → World → Prop) : Prop :=
  condK t0
  (kV P (binV .shl 23 (.const (.int .u64 1)) (.tmp 6) (.int .u64 1) t1) w fun v7 w =>
  K v7 w)
  (K (.int .u64 0) w)
theorem F81_eq (P : Program) (t0 t1 : Value) (w : World) (K : Value → World → Prop) : funE P ⟨[], [], []⟩ Try.f81 [t0, t1] w K = F81 P t0 t1 w K := by kernel_rfl
theorem F81_ok (t0 t1 : Value) (w : World) (K : Value → World → Prop) (h : F81 Try.prog t0 t1 w K) : callsK Try.prog 81 #[t0, t1] w K := calls_of_eq mixedM Try.func81 (F81_eq _ t0 t1 w K) h

/-- (mintmark/mintmarkref08.Ram).Byte -/
def F86 (P : Program) (t0 t1 : Value) (w : World) (K : Value → World → Prop) : Prop :=
  kV P (Instr.box 28 t0) w fun v2 w =>
  kV P (Instr.fieldAt 28 v2 1) w fun v6 w =>
  kV P (Instr.loadAt 25 v6) w fun v7 w =>
  kV P (Builtin.len_ #[25] 3 #[v7]) w fun v8 w =>
  kV P (binV .sub 3 (.tmp 8) (.const (.int .i64 1)) v8 (.int .i64 1)) w fun v9 w =>
  loopT (fun R0 s0 w => ∀ _ : Nat → Value,
  kV P (binV .geq 3 (.tmp 10) (.const (.int .i64 0)) (s0.getD 0 undef) (.int .i64 0)) w fun v11 w =>
  condK v11
  (kV P (Instr.fieldAt 28 v2 1) w fun v14 w =>
  kV P (Instr.loadAt 25 v14) w fun v15 w =>
  kV P (Instr.indexAt 25 v15 (s0.getD 0 undef)) w fun v17 w =>
  kV P (Instr.loadAt 23 v17) w fun v18 w =>
  kV P (binV .eql 23 (.tmp 18) (.tmp 19) v18 t1) w fun v20 w =>
  condK v20
  (kV P (Instr.fieldAt 28 v2 2) w fun v21 w =>
  kV P (Instr.loadAt 26 v21) w fun v22 w =>
  kV P (Instr.indexAt 26 v22 (s0.getD 0 undef)) w fun v24 w =>
  kV P (Instr.loadAt 5 v24) w fun v25 w =>
  K v25 w)
  (kV P (binV .sub 3 (.tmp 12) (.const (.int .i64 1)) (s0.getD 0 undef) (.int .i64 1)) w fun v13 w =>
  R0 [v13] w))
  (K (.int .u8 0) w)) [v9] w
theorem F86_eq (P : Program) (t0 t1 : Value) (w : World) (K : Value → World → Prop) : funE P ⟨[], [(2, [5])], []⟩ Try.f86 [t0, t1] w K = F86 P t0 t1 w K := by kernel_rfl
theorem F86_ok (t0 t1 : Value) (w : World) (K : Value → World → Prop) (h : F86 Try.prog t0 t1 w K) : callsK Try.prog 86 #[t0, t1] w K := calls_of_eq mixedM Try.func86 (F86_eq _ t0 t1 w K) h

/-- (*mintmark/ram.Ram).none -/
def F87 (P : Program) (t0 : Value) (w : World) (K : Value → World → Prop) : Prop :=
  kV P (binV .eql 24 (.tmp 3) (.const (.pointer none)) t0 (.pointer none)) w fun v4 w =>
  joinK (fun J0 : Value → World → Prop => gdK (yb v4) false (fun k => k t0 w) w fun v6 w =>
  gdK (yb v4) false (fun k => kN P (nilN v6) w k) w fun v7 w =>
  gdK (yb v4) false (fun k => kV P (Instr.fieldAt 167 v7 0) w k) w fun v8 w =>
  gdK (yb v4) false (fun k => kV P (Instr.loadAt 165 v8) w k) w fun v9 w =>
  gdK (yb v4) false (fun k => kV P (Builtin.len_ #[165] 3 #[v9]) w k) w fun v10 w =>
  gdK (yb v4) false (fun k => kV P (binV .eql 3 (.tmp 10) (.const (.int .i64 0)) v10 (.int .i64 0)) w k) w fun v11 w =>
  kN P (pickN v4 (.bool true) v11) w fun v12_1 w =>
  J0 v12_1 w) fun v12 w =>
  K v12 w
theorem F87_eq (P : Program) (t0 : Value) (w : World) (K : Value → World → Prop) : funE P ⟨[], [], []⟩ Try.f87 [t0] w K = F87 P t0 w K := by kernel_rfl
theorem F87_ok (t0 : Value) (w : World) (K : Value → World → Prop) (h : F87 Try.prog t0 w K) : callsK Try.prog 87 #[t0] w K := calls_of_eq mixedM Try.func87 (F87_eq _ t0 w K) h

/-- mintmark/mintmarkref09.has -/
def F88 (P : Program) (t0 t1 : Value) (w : World) (K : Value → World → Prop) : Prop :=
  kV P (binV .shr 23 (.tmp 5) (.tmp 6) t0 t1) w fun v7 w =>
  kV P (binV .rem 23 (.tmp 7) (.const (.int .u64 2)) v7 (.int .u64 2)) w fun v8 w =>
  kV P (binV .eql 23 (.tmp 8) (.const (.int .u64 1)) v8 (.int .u64 1)) w fun v9 w =>
  K v9 w
theorem F88_eq (P : Program) (t0 t1 : Value) (w : World) (K : Value → World → Prop) : funE P ⟨[], [], []⟩ Try.f88 [t0, t1] w K = F88 P t0 t1 w K := by kernel_rfl
theorem F88_ok (t0 t1 : Value) (w : World) (K : Value → World → Prop) (h : F88 Try.prog t0 t1 w K) : callsK Try.prog 88 #[t0, t1] w K := calls_of_eq mixedM Try.func88 (F88_eq _ t0 t1 w K) h

/-- (mintmark/tags.Set).With -/
def F89 (P : Program) (t0 t1 t2 : Value) (w : World) (K : Value → World → Prop) : Prop :=
  kV P (Instr.box 127 t0) w fun v3 w =>
  kV P (Instr.alloc 127 true (.tuple #[])) w fun v6 w =>
  kN P (callN (.func (.func 97) #[] #[]) #[t1]) w fun v9 w =>
  kV P (Op.unary .not v9) w fun v10 w =>
  condK v10
  (kV P (Instr.loadAt 127 v3) w fun v11 w =>
  kU P (Instr.storeAt 127 v6 v11) w fun _ w =>
  retV P 127 v6 w fun r0 =>
  K r0 w)
  (kV P (binV .rem 3 (.tmp 12) (.const (.int .i64 64)) t1 (.int .i64 64)) w fun v13 w =>
  kV P (binV .shl 23 (.const (.int .u64 1)) (.tmp 13) (.int .u64 1) v13) w fun v14 w =>
  joinL (fun J1 =>
  condK t2
  (kV P (binV .quo 3 (.tmp 16) (.const (.int .i64 64)) t1 (.int .i64 64)) w fun v17 w =>
  kV P (Instr.indexAt 127 v3 v17) w fun v18 w =>
  kV P (Instr.loadAt 23 v18) w fun v19 w =>
  kV P (binV .or 23 (.tmp 19) (.tmp 20) v19 v14) w fun v21 w =>
  kV P (Instr.indexAt 127 v3 v17) w fun v22 w =>
  kU P (Instr.storeAt 23 v22 v21) w fun _ w =>
  J1 [] w)
  (kV P (binV .quo 3 (.tmp 23) (.const (.int .i64 64)) t1 (.int .i64 64)) w fun v24 w =>
  kV P (Instr.indexAt 127 v3 v24) w fun v25 w =>
  kV P (Instr.loadAt 23 v25) w fun v26 w =>
  kV P (binV .andNot 23 (.tmp 26) (.tmp 27) v26 v14) w fun v28 w =>
  kV P (Instr.indexAt 127 v3 v24) w fun v29 w =>
  kU P (Instr.storeAt 23 v29 v28) w fun _ w =>
  J1 [] w)) fun s1 w => ∀ _ : Nat → Value,
  kV P (Instr.loadAt 127 v3) w fun v30 w =>
  kU P (Instr.storeAt 127 v6 v30) w fun _ w =>
  retV P 127 v6 w fun r3 =>
  K r3 w)
theorem F89_eq (P : Program) (t0 t1 t2 : Value) (w : World) (K : Value → World → Prop) : funE P ⟨[], [], [(7, [])]⟩ Try.f89 [t0, t1, t2] w K = F89 P t0 t1 t2 w K := by kernel_rfl
theorem F89_ok (t0 t1 t2 : Value) (w : World) (K : Value → World → Prop) (h : F89 Try.prog t0 t1 t2 w K) : callsK Try.prog 89 #[t0, t1, t2] w K := calls_of_eq mixedM Try.func89 (F89_eq _ t0 t1 t2 w K) h

/-- mintmark/field.may -/
def F90 (P : Program) (t0 t1 : Value) (w : World) (K : Value → World → Prop) : Prop :=
  kV P (binV .geq 3 (.tmp 5) (.const (.int .i64 0)) t1 (.int .i64 0)) w fun v6 w =>
  joinK (fun J0 : Value → World → Prop => gdK (yb v6) true (fun k => k t1 w) w fun v8 w =>
  gdK (yb v6) true (fun k => kV P (binV .leq 3 (.tmp 8) (.const (.int .i64 64)) v8 (.int .i64 64)) w k) w fun v9 w =>
  kN P (pickN v6 v9 (.bool false)) w fun v10_1 w =>
  J0 v10_1 w) fun v10 w =>
  joinK (fun J1 : Value → World → Prop => gdK (yb v10) true (fun k => k t0 w) w fun v12 w =>
  gdK (yb v10) true (fun k => kV P (binV .geq 3 (.tmp 12) (.const (.int .i64 0)) v12 (.int .i64 0)) w k) w fun v13 w =>
  kN P (pickN v10 v13 (.bool false)) w fun v14_1 w =>
  J1 v14_1 w) fun v14 w =>
  joinK (fun J2 : Value → World → Prop => gdK (yb v14) true (fun k => k t0 w) w fun v16 w =>
  gdK (yb v14) true (fun k => k t1 w) w fun v17 w =>
  gdK (yb v14) true (fun k => kV P (binV .sub 3 (.const (.int .i64 64)) (.tmp 17) (.int .i64 64) v17) w k) w fun v18 w =>
  gdK (yb v14) true (fun k => kV P (binV .leq 3 (.tmp 16) (.tmp 18) v16 v18) w k) w fun v19 w =>
  kN P (pickN v14 v19 (.bool false)) w fun v20_1 w =>
  J2 v20_1 w) fun v20 w =>
  K v20 w
theorem F90_eq (P : Program) (t0 t1 : Value) (w : World) (K : Value → World → Prop) : funE P ⟨[], [], []⟩ Try.f90 [t0, t1] w K = F90 P t0 t1 w K := by kernel_rfl
theorem F90_ok (t0 t1 : Value) (w : World) (K : Value → World → Prop) (h : F90 Try.prog t0 t1 w K) : callsK Try.prog 90 #[t0, t1] w K := calls_of_eq mixedM Try.func90 (F90_eq _ t0 t1 w K) h

/-- mintmark/pte.Address -/
def F91 (P : Program) (t0 : Value) (w : World) (K : Value → World → Prop) : Prop :=
  kV P (binV .mul 23 (.tmp 3) (.const (.int .u64 4096)) t0 (.int .u64 4096)) w fun v4 w =>
  K v4 w
theorem F91_eq (P : Program) (t0 : Value) (w : World) (K : Value → World → Prop) : funE P ⟨[], [], []⟩ Try.f91 [t0] w K = F91 P t0 w K := by kernel_rfl
theorem F91_ok (t0 : Value) (w : World) (K : Value → World → Prop) (h : F91 Try.prog t0 w K) : callsK Try.prog 91 #[t0] w K := calls_of_eq mixedM Try.func91 (F91_eq _ t0 w K) h

/-- mintmark/pte.Offset -/
def F92 (P : Program) (t0 : Value) (w : World) (K : Value → World → Prop) : Prop :=
  kV P (binV .rem 23 (.tmp 3) (.const (.int .u64 4096)) t0 (.int .u64 4096)) w fun v4 w =>
  K v4 w
theorem F92_eq (P : Program) (t0 : Value) (w : World) (K : Value → World → Prop) : funE P ⟨[], [], []⟩ Try.f92 [t0] w K = F92 P t0 w K := by kernel_rfl
theorem F92_ok (t0 : Value) (w : World) (K : Value → World → Prop) (h : F92 Try.prog t0 w K) : callsK Try.prog 92 #[t0] w K := calls_of_eq mixedM Try.func92 (F92_eq _ t0 w K) h

/-- (mintmark/mintmarkref08.Ram).size -/
def F94 (P : Program) (t0 : Value) (w : World) (K : Value → World → Prop) : Prop :=
  kV P (Instr.box 28 t0) w fun v1 w =>
  kV P (Instr.fieldAt 28 v1 0) w fun v3 w =>
  kV P (Instr.loadAt 3 v3) w fun v4 w =>
  kV P (convert 3 23 v4) w fun v5 w =>
  kV P (binV .mul 23 (.tmp 5) (.const (.int .u64 4096)) v5 (.int .u64 4096)) w fun v6 w =>
  K v6 w
theorem F94_eq (P : Program) (t0 : Value) (w : World) (K : Value → World → Prop) : funE P ⟨[], [], []⟩ Try.f94 [t0] w K = F94 P t0 w K := by kernel_rfl
theorem F94_ok (t0 : Value) (w : World) (K : Value → World → Prop) (h : F94 Try.prog t0 w K) : callsK Try.prog 94 #[t0] w K := calls_of_eq mixedM Try.func94 (F94_eq _ t0 w K) h

/-- (mintmark/mintmarkref08.Ram).untag -/
def F95 (P : Program) (t0 t1 : Value) (w : World) (K : Value → World → Prop) : Prop :=
  kV P (Instr.box 28 t0) w fun v2 w =>
  kV P (Instr.alloc 28 true (.tuple #[])) w fun v4 w =>
  loopT (fun R0 s0 w => ∀ _ : Nat → Value,
  kV P (Instr.fieldAt 28 v2 3) w fun v8 w =>
  kV P (Instr.loadAt 25 v8) w fun v9 w =>
  kV P (Builtin.len_ #[25] 3 #[v9]) w fun v10 w =>
  kV P (binV .lss 3 (.tmp 7) (.tmp 10) (s0.getD 1 undef) v10) w fun v11 w =>
  condK v11
  (joinL (fun J2 =>
  kV P (Instr.fieldAt 28 v2 3) w fun v14 w =>
  kV P (Instr.loadAt 25 v14) w fun v15 w =>
  kV P (Instr.indexAt 25 v15 (s0.getD 1 undef)) w fun v17 w =>
  kV P (Instr.loadAt 23 v17) w fun v18 w =>
  kV P (binV .neq 23 (.tmp 18) (.tmp 19) v18 t1) w fun v20 w =>
  condK v20
  (kV P (Instr.fieldAt 28 v2 3) w fun v22 w =>
  kV P (Instr.loadAt 25 v22) w fun v23 w =>
  kV P (Instr.indexAt 25 v23 (s0.getD 1 undef)) w fun v25 w =>
  kV P (Instr.loadAt 23 v25) w fun v26 w =>
  kV P (Instr.buildSlice 25 1 #[(0, v26)]) w fun v27 w =>
  kV P (Builtin.append_ #[25, 25] 25 #[(s0.getD 0 undef), v27]) w fun v28 w =>
  J2 [v28] w)
  (J2 [(s0.getD 0 undef)] w)) fun s2 w => ∀ _ : Nat → Value,
  kV P (binV .add 3 (.tmp 12) (.const (.int .i64 1)) (s0.getD 1 undef) (.int .i64 1)) w fun v13 w =>
  R0 [(s2.getD 0 undef), v13] w)
  (kV P (Instr.fieldAt 28 v2 3) w fun v30 w =>
  kU P (Instr.storeAt 25 v30 (s0.getD 0 undef)) w fun _ w =>
  kV P (Instr.loadAt 28 v2) w fun v31 w =>
  kU P (Instr.storeAt 28 v4 v31) w fun _ w =>
  retV P 28 v4 w fun r4 =>
  K r4 w)) [(.slice none 0 0), (.int .i64 0)] w
theorem F95_eq (P : Program) (t0 t1 : Value) (w : World) (K : Value → World → Prop) : funE P ⟨[], [(3, [5, 6])], [(4, [5])]⟩ Try.f95 [t0, t1] w K = F95 P t0 t1 w K := by kernel_rfl
theorem F95_ok (t0 t1 : Value) (w : World) (K : Value → World → Prop) (h : F95 Try.prog t0 t1 w K) : callsK Try.prog 95 #[t0, t1] w K := calls_of_eq mixedM Try.func95 (F95_eq _ t0 t1 w K) h

/-- mintmark/tags.is -/
def F97 (P : Program) (t0 : Value) (w : World) (K : Value → World → Prop) : Prop :=
  kV P (binV .geq 3 (.tmp 3) (.const (.int .i64 0)) t0 (.int .i64 0)) w fun v4 w =>
  joinK (fun J0 : Value → World → Prop => gdK (yb v4) true (fun k => k t0 w) w fun v6 w =>
  gdK (yb v4) true (fun k => kV P (binV .lss 3 (.tmp 6) (.const (.int .i64 256)) v6 (.int .i64 256)) w k) w fun v7 w =>
  kN P (pickN v4 v7 (.bool false)) w fun v8_1 w =>
  J0 v8_1 w) fun v8 w =>
  K v8 w
theorem F97_eq (P : Program) (t0 : Value) (w : World) (K : Value → World → Prop) : funE P ⟨[], [], []⟩ Try.f97 [t0] w K = F97 P t0 w K := by kernel_rfl
theorem F97_ok (t0 : Value) (w : World) (K : Value → World → Prop) (h : F97 Try.prog t0 w K) : callsK Try.prog 97 #[t0] w K := calls_of_eq mixedM Try.func97 (F97_eq _ t0 w K) h

end Go.Proofs.Ytbigiabcgplkgaa
