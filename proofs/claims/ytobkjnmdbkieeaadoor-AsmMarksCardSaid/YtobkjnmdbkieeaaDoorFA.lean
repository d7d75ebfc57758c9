/- The formulas of functions of this seat, each tied to its calls; conditions: none. -/
import Derived.Test.YtobkjnmdbkieeaaDoorProg
import Derived.Test.YtobkjnmdbkieeaaDoorFx
import Derived.KernelRfl
namespace Go.Proofs.YtobkjnmdbkieeaaDoor
open Go.Fx
set_option linter.unusedVariables false
set_option linter.constructorNameAsVariable false
set_option maxRecDepth 100000
theorem mixedA : Tryd.prog.follows .mixedOrders = true := by kernel_rfl
/-- mintmark/asm.Text -/
def F6 (P : Program) (t0 : Value) (w : World) (K : Value → World → Prop) : Prop :=
  kV P (Instr.box 28 t0) w fun v1 w =>
  kV P (Instr.loadAt 28 v1) w fun v10 w =>
  kN P (callN (.func (.func 5) #[] #[]) #[v10]) w fun v11 w =>
  kV P (Instr.extract v11 0) w fun v12 w =>
  kV P (Instr.extract v11 1) w fun v13 w =>
  kV P (Op.unary .not v13) w fun v15 w =>
  condK v15
  (K (.string ⟨#[]⟩) w)
  (kV P (Instr.alloc 38 true (.tuple #[])) w fun v5 w =>
  kV P (Instr.fieldAt 28 v1 0) w fun v17 w =>
  kV P (Instr.loadAt 3 v17) w fun v18 w =>
  kN P (callN (.func (.func 23) #[] #[]) #[v18]) w fun v19 w =>
  kN P (callN (.func (.func 22) #[] #[]) #[v19]) w fun v20 w =>
  kV P (convert 9 62 v20) w fun v21 w =>
  kV P (Builtin.len_ #[62] 3 #[v21]) w fun v22 w =>
  loopT (fun R0 s0 w => ∀ _ : Nat → Value,
  kV P (binV .lss 3 (.tmp 23) (.tmp 22) (s0.getD 0 undef) v22) w fun v24 w =>
  condK v24
  (joinL (fun J2 =>
  kV P (Instr.indexAt 62 v21 (s0.getD 0 undef)) w fun v25 w =>
  kV P (Instr.loadAt 5 v25) w fun v26 w =>
  kV P (binV .eql 5 (.tmp 27) (.const (.int .u8 100)) v26 (.int .u8 100)) w fun v35 w =>
  condK v35
  (kV P (Instr.fieldAt 28 v1 1) w fun v37 w =>
  kV P (Instr.loadAt 3 v37) w fun v38 w =>
  kN P (callN (.func (.func 20) #[] #[v5]) #[v38]) w fun v39 w =>
  J2 [] w)
  (kV P (binV .eql 5 (.tmp 27) (.const (.int .u8 97)) v26 (.int .u8 97)) w fun v41 w =>
  condK v41
  (kV P (Instr.fieldAt 28 v1 2) w fun v43 w =>
  kV P (Instr.loadAt 3 v43) w fun v44 w =>
  kN P (callN (.func (.func 20) #[] #[v5]) #[v44]) w fun v45 w =>
  J2 [] w)
  (kV P (binV .eql 5 (.tmp 27) (.const (.int .u8 98)) v26 (.int .u8 98)) w fun v47 w =>
  condK v47
  (kV P (Instr.fieldAt 28 v1 3) w fun v49 w =>
  kV P (Instr.loadAt 3 v49) w fun v50 w =>
  kN P (callN (.func (.func 20) #[] #[v5]) #[v50]) w fun v51 w =>
  J2 [] w)
  (drewK (fun w =>
  pV P (Instr.fieldAt 28 v1 4) fun v29 =>
  (kV P (Instr.loadAt 38 v5) w fun v28 w =>
  kV P (Instr.loadAt 2 v29) w fun v30 w =>
  kN P (callN (.func (.func 21) #[] #[]) #[v30]) w fun v31 w =>
  kV P (Instr.buildSlice 38 1 #[(0, v31)]) w fun v32 w =>
  kV P (Builtin.append_ #[38, 38] 38 #[v28, v32]) w fun v33 w =>
  kU P (Instr.storeAt 38 v5 v33) w fun _ w =>
  J2 [] w) ∧
  (kV P (Instr.loadAt 2 v29) w fun v30_1 w =>
  (kV P (Instr.loadAt 38 v5) w fun v28_1 w =>
  kN P (callN (.func (.func 21) #[] #[]) #[v30_1]) w fun v31_1 w =>
  kV P (Instr.buildSlice 38 1 #[(0, v31_1)]) w fun v32_1 w =>
  kV P (Builtin.append_ #[38, 38] 38 #[v28_1, v32_1]) w fun v33_1 w =>
  kU P (Instr.storeAt 38 v5 v33_1) w fun _ w =>
  J2 [] w) ∧
  (kN P (callN (.func (.func 21) #[] #[]) #[v30_1]) w fun v31_2 w =>
  (kV P (Instr.loadAt 38 v5) w fun v28_2 w =>
  kV P (Instr.buildSlice 38 1 #[(0, v31_2)]) w fun v32_2 w =>
  kV P (Builtin.append_ #[38, 38] 38 #[v28_2, v32_2]) w fun v33_2 w =>
  kU P (Instr.storeAt 38 v5 v33_2) w fun _ w =>
  J2 [] w) ∧
  (kV P (Instr.buildSlice 38 1 #[(0, v31_2)]) w fun v32_3 w =>
  kV P (Instr.loadAt 38 v5) w fun v28_3 w =>
  kV P (Builtin.append_ #[38, 38] 38 #[v28_3, v32_3]) w fun v33_3 w =>
  kU P (Instr.storeAt 38 v5 v33_3) w fun _ w =>
  J2 [] w)))) w)))) fun s2 w => ∀ _ : Nat → Value,
  kV P (binV .add 3 (.tmp 23) (.const (.int .i64 1)) (s0.getD 0 undef) (.int .i64 1)) w fun v52 w =>
  R0 [v52] w)
  (kV P (Instr.loadAt 38 v5) w fun v53 w =>
  kV P (Builtin.len_ #[38] 3 #[v53]) w fun v54 w =>
  kV P (binV .eql 3 (.tmp 54) (.const (.int .i64 0)) v54 (.int .i64 0)) w fun v55 w =>
  condK v55
  (kV P (Instr.fieldAt 28 v1 0) w fun v56 w =>
  kV P (Instr.loadAt 3 v56) w fun v57 w =>
  kN P (callN (.func (.func 24) #[] #[]) #[v57]) w fun v58 w =>
  K v58 w)
  (drewK (fun w =>
  pV P (Instr.fieldAt 28 v1 0) fun v59 =>
  (kV P (Instr.loadAt 3 v59) w fun v60 w =>
  (kN P (callN (.func (.func 24) #[] #[]) #[v60]) w fun v61 w =>
  pV P (binV .add 9 (.tmp 61) (.const (.string ⟨#[32]⟩)) v61 (.string ⟨#[32]⟩)) fun v62 =>
  kV P (Instr.loadAt 38 v5) w fun v63 w =>
  kN P (callN (.func (.func 25) #[] #[]) #[v63, (.string ⟨#[44, 32]⟩)]) w fun v64 w =>
  pV P (binV .add 9 (.tmp 62) (.tmp 64) v62 v64) fun v65 =>
  K v65 w) ∧
  (kV P (Instr.loadAt 38 v5) w fun v63_1 w =>
  kN P (callN (.func (.func 24) #[] #[]) #[v60]) w fun v61_1 w =>
  pV P (binV .add 9 (.tmp 61) (.const (.string ⟨#[32]⟩)) v61_1 (.string ⟨#[32]⟩)) fun v62_1 =>
  kN P (callN (.func (.func 25) #[] #[]) #[v63_1, (.string ⟨#[44, 32]⟩)]) w fun v64_1 w =>
  pV P (binV .add 9 (.tmp 62) (.tmp 64) v62_1 v64_1) fun v65_1 =>
  K v65_1 w)) ∧
  (kV P (Instr.loadAt 38 v5) w fun v63_2 w =>
  kV P (Instr.loadAt 3 v59) w fun v60_1 w =>
  kN P (callN (.func (.func 24) #[] #[]) #[v60_1]) w fun v61_2 w =>
  pV P (binV .add 9 (.tmp 61) (.const (.string ⟨#[32]⟩)) v61_2 (.string ⟨#[32]⟩)) fun v62_2 =>
  kN P (callN (.func (.func 25) #[] #[]) #[v63_2, (.string ⟨#[44, 32]⟩)]) w fun v64_2 w =>
  pV P (binV .add 9 (.tmp 62) (.tmp 64) v62_2 v64_2) fun v65_2 =>
  K v65_2 w)) w))) [(.int .i64 0)] w)
theorem F6_eq (P : Program) (t0 : Value) (w : World) (K : Value → World → Prop) : funE P ⟨[(20, 999), (10, 999)], [(7, [23])], [(17, [])]⟩ Tryd.f6 [t0] w K = F6 P t0 w K := by kernel_rfl
theorem F6_ok (t0 : Value) (w : World) (K : Value → World → Prop) (h : F6 Tryd.prog t0 w K) : callsK Tryd.prog 6 #[t0] w K := calls_of_eq mixedA Tryd.func6 (F6_eq _ t0 w K) h

/-- mintmark/asm.Parse -/
def F7 (P : Program) (t0 : Value) (w : World) (K : Value → World → Prop) : Prop :=
  kV P (Instr.alloc 28 true (.tuple #[])) w fun v2 w =>
  kN P (callN (.func (.func 26) #[] #[]) #[t0, (.string ⟨#[32]⟩)]) w fun v19 w =>
  kV P (Instr.extract v19 0) w fun v20 w =>
  kV P (Instr.extract v19 1) w fun v21 w =>
  kV P (Instr.extract v19 2) w fun v22 w =>
  kN P (callN (.func (.func 27) #[] #[]) #[v20]) w fun v24 w =>
  kV P (Instr.build 28 #[(0, v24)]) w fun v25 w =>
  kV P (Instr.alloc 28 true (.tuple #[])) w fun v7 w =>
  kU P (Instr.storeAt 28 v7 v25) w fun _ w =>
  kV P (Instr.fieldAt 28 v7 0) w fun v26 w =>
  kV P (Instr.loadAt 3 v26) w fun v27 w =>
  kN P (callN (.func (.func 23) #[] #[]) #[v27]) w fun v28 w =>
  kN P (callN (.func (.func 22) #[] #[]) #[v28]) w fun v29 w =>
  joinL (fun J0 =>
  condK v22
  (kN P (callN (.func (.func 28) #[] #[]) #[v21, (.string ⟨#[44, 32]⟩)]) w fun v32 w =>
  J0 [v32] w)
  (J0 [(.slice none 0 0)] w)) fun s0 w => ∀ _ : Nat → Value,
  kV P (Instr.fieldAt 28 v7 0) w fun v33 w =>
  kV P (Instr.loadAt 3 v33) w fun v34 w =>
  kV P (binV .eql 3 (.tmp 34) (.const (.int .i64 0)) v34 (.int .i64 0)) w fun v35 w =>
  joinK (fun J2 : Value → World → Prop => gdK (yb v35) false (fun k => k (s0.getD 0 undef) w) w fun v37 w =>
  gdK (yb v35) false (fun k => kV P (Builtin.len_ #[38] 3 #[v37]) w k) w fun v38 w =>
  gdK (yb v35) false (fun k => k v29 w) w fun v39 w =>
  gdK (yb v35) false (fun k => kV P (Builtin.len_ #[9] 3 #[v39]) w k) w fun v40 w =>
  gdK (yb v35) false (fun k => kV P (binV .neq 3 (.tmp 38) (.tmp 40) v38 v40) w k) w fun v41 w =>
  kN P (pickN v35 (.bool true) v41) w fun v42_1 w =>
  J2 v42_1 w) fun v42 w =>
  condK v42
  (kV P (Instr.build 28 #[]) w fun v43 w =>
  kU P (Instr.storeAt 28 v2 v43) w fun _ w =>
  retV P 28 v2 w fun r3 =>
  K (.tuple #[r3, (.bool false)]) w)
  (kV P (Instr.alloc 4 true (.tuple #[])) w fun v10 w =>
  kU P (Instr.storeAt 4 v10 (.bool true)) w fun _ w =>
  kV P (Builtin.len_ #[9] 3 #[v29]) w fun v46 w =>
  loopT (fun R4 s4 w => ∀ _ : Nat → Value,
  kV P (binV .lss 3 (.tmp 47) (.tmp 46) (s4.getD 0 undef) v46) w fun v48 w =>
  condK v48
  (joinL (fun J6 =>
  kV P (Instr.index 9 v29 (s4.getD 0 undef)) w fun v52 w =>
  kV P (binV .eql 5 (.tmp 52) (.const (.int .u8 100)) v52 (.int .u8 100)) w fun v68 w =>
  condK v68
  (kV P (Instr.indexAt 38 (s0.getD 0 undef) (s4.getD 0 undef)) w fun v72 w =>
  kV P (Instr.loadAt 9 v72) w fun v73 w =>
  kN P (callN (.func (.func 29) #[] #[v10]) #[v73]) w fun v74 w =>
  kV P (Instr.fieldAt 28 v7 1) w fun v75 w =>
  kU P (Instr.storeAt 3 v75 v74) w fun _ w =>
  J6 [] w)
  (kV P (binV .eql 5 (.tmp 52) (.const (.int .u8 97)) v52 (.int .u8 97)) w fun v77 w =>
  condK v77
  (kV P (Instr.indexAt 38 (s0.getD 0 undef) (s4.getD 0 undef)) w fun v81 w =>
  kV P (Instr.loadAt 9 v81) w fun v82 w =>
  kN P (callN (.func (.func 29) #[] #[v10]) #[v82]) w fun v83 w =>
  kV P (Instr.fieldAt 28 v7 2) w fun v84 w =>
  kU P (Instr.storeAt 3 v84 v83) w fun _ w =>
  J6 [] w)
  (kV P (binV .eql 5 (.tmp 52) (.const (.int .u8 98)) v52 (.int .u8 98)) w fun v86 w =>
  condK v86
  (kV P (Instr.indexAt 38 (s0.getD 0 undef) (s4.getD 0 undef)) w fun v90 w =>
  kV P (Instr.loadAt 9 v90) w fun v91 w =>
  kN P (callN (.func (.func 29) #[] #[v10]) #[v91]) w fun v92 w =>
  kV P (Instr.fieldAt 28 v7 3) w fun v93 w =>
  kU P (Instr.storeAt 3 v93 v92) w fun _ w =>
  J6 [] w)
  (kV P (Instr.indexAt 38 (s0.getD 0 undef) (s4.getD 0 undef)) w fun v56 w =>
  kV P (Instr.loadAt 9 v56) w fun v57 w =>
  kN P (callN (.func (.func 31) #[] #[]) #[v57]) w fun v58 w =>
  kV P (Instr.extract v58 0) w fun v59 w =>
  kV P (Instr.extract v58 1) w fun v60 w =>
  kV P (Instr.loadAt 4 v10) w fun v62 w =>
  joinK (fun J8 : Value → World → Prop => gdK (yb v62) true (fun k => k v60 w) w fun v64 w =>
  kN P (pickN v62 v64 (.bool false)) w fun v65_1 w =>
  J8 v65_1 w) fun v65 w =>
  kV P (Instr.fieldAt 28 v7 4) w fun v66 w =>
  kU P (Instr.storeAt 2 v66 v59) w fun _ w =>
  kU P (Instr.storeAt 4 v10 v65) w fun _ w =>
  J6 [] w)))) fun s6 w => ∀ _ : Nat → Value,
  kV P (binV .add 3 (.tmp 47) (.const (.int .i64 1)) (s4.getD 0 undef) (.int .i64 1)) w fun v94 w =>
  R4 [v94] w)
  (kV P (Instr.loadAt 28 v7) w fun v96 w =>
  kN P (callN (.func (.func 5) #[] #[]) #[v96]) w fun v97 w =>
  kV P (Instr.extract v97 0) w fun v98 w =>
  kV P (Instr.extract v97 1) w fun v99 w =>
  kV P (Instr.loadAt 4 v10) w fun v100 w =>
  kV P (Op.unary .not v100) w fun v101 w =>
  joinK (fun J9 : Value → World → Prop => gdK (yb v101) false (fun k => k v99 w) w fun v103 w =>
  gdK (yb v101) false (fun k => kV P (Op.unary .not v103) w k) w fun v104 w =>
  kN P (pickN v101 (.bool true) v104) w fun v105_1 w =>
  J9 v105_1 w) fun v105 w =>
  condK v105
  (kV P (Instr.build 28 #[]) w fun v106 w =>
  kU P (Instr.storeAt 28 v2 v106) w fun _ w =>
  retV P 28 v2 w fun r10 =>
  K (.tuple #[r10, (.bool false)]) w)
  (kV P (Instr.loadAt 28 v7) w fun v107 w =>
  kU P (Instr.storeAt 28 v2 v107) w fun _ w =>
  retV P 28 v2 w fun r11 =>
  K (.tuple #[r11, (.bool true)]) w))) [(.int .i64 0)] w)
theorem F7_eq (P : Program) (t0 : Value) (w : World) (K : Value → World → Prop) : funE P ⟨[], [(12, [47])], [(7, [9]), (23, [])]⟩ Tryd.f7 [t0] w K = F7 P t0 w K := by kernel_rfl
theorem F7_ok (t0 : Value) (w : World) (K : Value → World → Prop) (h : F7 Tryd.prog t0 w K) : callsK Tryd.prog 7 #[t0] w K := calls_of_eq mixedA Tryd.func7 (F7_eq _ t0 w K) h

/-- mintmark/asm.Assemble -/
def F8 (P : Program) (t0 : Value) (w : World) (K : Value → World → Prop) : Prop :=
  kV P (Builtin.len_ #[9] 3 #[t0]) w fun v20 w =>
  kV P (binV .gtr 3 (.tmp 20) (.const (.int .i64 16384)) v20 (.int .i64 16384)) w fun v21 w =>
  condK v21
  (K (.tuple #[(.slice none 0 0), (.int .i64 0), (.int .i64 3)]) w)
  (kN P (callN (.func (.func 32) #[] #[]) #[t0]) w fun v23 w =>
  kN P (callN (.func (.func 33) #[] #[]) #[v23]) w fun v26 w =>
  kV P (Instr.extract v26 0) w fun v27 w =>
  kV P (Instr.extract v26 1) w fun v28 w =>
  kV P (Instr.alloc 79 true (.tuple #[])) w fun v6 w =>
  kU P (Instr.storeAt 79 v6 v27) w fun _ w =>
  kV P (binV .gtr 3 (.tmp 29) (.const (.int .i64 1024)) v28 (.int .i64 1024)) w fun v30 w =>
  condK v30
  (K (.tuple #[(.slice none 0 0), (.int .i64 0), (.int .i64 3)]) w)
  (kV P (Instr.makeMap 82 none) w fun v31 w =>
  joinL (fun J0 =>
  kV P (Builtin.len_ #[75] 3 #[v23]) w fun v33 w =>
  loopT (fun R2 s2 w => ∀ _ : Nat → Value,
  kV P (binV .lss 3 (.tmp 34) (.tmp 33) (s2.getD 2 undef) v33) w fun v35 w =>
  condK v35
  (joinL (fun J4 =>
  kV P (Instr.indexAt 75 v23 (s2.getD 2 undef)) w fun v36 w =>
  kV P (Instr.loadAt 84 v36) w fun v37 w =>
  kV P (Instr.alloc 84 true (.tuple #[])) w fun v12 w =>
  kU P (Instr.storeAt 84 v12 v37) w fun _ w =>
  kV P (Instr.fieldAt 84 v12 2) w fun v74 w =>
  kV P (Instr.loadAt 4 v74) w fun v75 w =>
  joinK (fun J6 : Value → World → Prop => gdK (yb v75) true (fun k => k v31 w) w fun v77 w =>
  gdK (yb v75) true (fun k => kV P (Instr.fieldAt 84 v12 1) w k) w fun v78 w =>
  gdK (yb v75) true (fun k => kV P (Instr.loadAt 9 v78) w k) w fun v79 w =>
  gdK (yb v75) true (fun k => kV P (Instr.lookup 82 v77 v79 false) w k) w fun v80 w =>
  kN P (pickN v75 v80 (.bool false)) w fun v81_1 w =>
  J6 v81_1 w) fun v81 w =>
  condK v81
  (kV P (Instr.fieldAt 84 v12 0) w fun v82 w =>
  kV P (Instr.loadAt 3 v82) w fun v83 w =>
  J0 [v83, (s2.getD 1 undef)] w)
  (kV P (Instr.fieldAt 84 v12 2) w fun v85 w =>
  kV P (Instr.loadAt 4 v85) w fun v86 w =>
  condK v86
  (kV P (Instr.fieldAt 84 v12 1) w fun v88 w =>
  kV P (Instr.loadAt 9 v88) w fun v89 w =>
  kU P (Instr.mapUpdate 82 v31 v89 (.bool true)) w fun _ w =>
  J4 [(s2.getD 0 undef), (s2.getD 1 undef)] w)
  (kV P (Instr.fieldAt 84 v12 1) w fun v38 w =>
  kV P (Instr.loadAt 9 v38) w fun v39 w =>
  kN P (callN (.func (.func 34) #[] #[]) #[v39]) w fun v40 w =>
  kV P (Builtin.len_ #[38] 3 #[v40]) w fun v41 w =>
  loopT (fun R7 s7 w => ∀ _ : Nat → Value,
  kV P (binV .lss 3 (.tmp 42) (.tmp 41) (s7.getD 2 undef) v41) w fun v43 w =>
  condK v43
  (kV P (Instr.indexAt 38 v40 (s7.getD 2 undef)) w fun v44 w =>
  kV P (Instr.loadAt 9 v44) w fun v45 w =>
  kV P (Instr.loadAt 79 v6) w fun v47 w =>
  kV P (Builtin.len_ #[23] 3 #[(s7.getD 1 undef)]) w fun v50 w =>
  kN P (callN (.func (.func 35) #[] #[]) #[v47, v45, v50]) w fun v51 w =>
  kN P (callN (.func (.func 7) #[] #[]) #[v51]) w fun v52 w =>
  kV P (Instr.extract v52 0) w fun v53 w =>
  kV P (Instr.extract v52 1) w fun v54 w =>
  kV P (Instr.alloc 28 true (.tuple #[])) w fun v15 w =>
  kU P (Instr.storeAt 28 v15 v53) w fun _ w =>
  kV P (Instr.loadAt 28 v15) w fun v56 w =>
  kN P (callN (.func (.func 5) #[] #[]) #[v56]) w fun v57 w =>
  kV P (Instr.extract v57 0) w fun v58 w =>
  kV P (Instr.extract v57 1) w fun v59 w =>
  kV P (Op.unary .not v54) w fun v61 w =>
  joinK (fun J9 : Value → World → Prop => gdK (yb v61) false (fun k => k v59 w) w fun v63 w =>
  gdK (yb v61) false (fun k => kV P (Op.unary .not v63) w k) w fun v64 w =>
  kN P (pickN v61 (.bool true) v64) w fun v65_1 w =>
  J9 v65_1 w) fun v65 w =>
  condK v65
  (kV P (Instr.fieldAt 84 v12 0) w fun v66 w =>
  kV P (Instr.loadAt 3 v66) w fun v67 w =>
  J0 [v67, (s7.getD 1 undef)] w)
  (kV P (Instr.buildSlice 23 1 #[(0, v58)]) w fun v70 w =>
  kV P (Builtin.append_ #[23, 23] 23 #[(s7.getD 1 undef), v70]) w fun v71 w =>
  kV P (binV .add 3 (.tmp 42) (.const (.int .i64 1)) (s7.getD 2 undef) (.int .i64 1)) w fun v72 w =>
  R7 [(s7.getD 0 undef), v71, v72] w))
  (J4 [(s7.getD 0 undef), (s7.getD 1 undef)] w)) [(s2.getD 0 undef), (s2.getD 1 undef), (.int .i64 0)] w))) fun s4 w => ∀ _ : Nat → Value,
  kV P (binV .add 3 (.tmp 34) (.const (.int .i64 1)) (s2.getD 2 undef) (.int .i64 1)) w fun v90 w =>
  R2 [(s4.getD 0 undef), (s4.getD 1 undef), v90] w)
  (J0 [(s2.getD 0 undef), (s2.getD 1 undef)] w)) [(.int .i64 0), (.slice none 0 0), (.int .i64 0)] w) fun s0 w => ∀ _ : Nat → Value,
  kV P (binV .gtr 3 (.tmp 91) (.const (.int .i64 0)) (s0.getD 0 undef) (.int .i64 0)) w fun v92 w =>
  condK v92
  (K (.tuple #[(.slice none 0 0), (s0.getD 0 undef), (.int .i64 11)]) w)
  (K (.tuple #[(s0.getD 1 undef), (.int .i64 0), (.int .i64 0)]) w)))
theorem F8_eq (P : Program) (t0 : Value) (w : World) (K : Value → World → Prop) : funE P ⟨[], [(11, [10, 8, 34]), (14, [10, 8, 42])], [(27, [10, 8]), (26, [10, 8])]⟩ Tryd.f8 [t0] w K = F8 P t0 w K := by kernel_rfl
theorem F8_ok (t0 : Value) (w : World) (K : Value → World → Prop) (h : F8 Tryd.prog t0 w K) : callsK Tryd.prog 8 #[t0] w K := calls_of_eq mixedA Tryd.func8 (F8_eq _ t0 w K) h

/-- mintmark/asm.Text$1 -/
def F20 (P : Program) (t0 t1 : Value) (w : World) (K : Value → World → Prop) : Prop :=
  drewK (fun w =>
  (kV P (Instr.loadAt 38 t1) w fun v3 w =>
  kN P (callN (.func (.func 21) #[] #[]) #[t0]) w fun v5 w =>
  pV P (binV .add 9 (.const (.string ⟨#[99]⟩)) (.tmp 5) (.string ⟨#[99]⟩) v5) fun v6 =>
  kV P (Instr.buildSlice 38 1 #[(0, v6)]) w fun v7 w =>
  kV P (Builtin.append_ #[38, 38] 38 #[v3, v7]) w fun v8 w =>
  kU P (Instr.storeAt 38 t1 v8) w fun _ w =>
  K (.tuple #[]) w) ∧
  (kN P (callN (.func (.func 21) #[] #[]) #[t0]) w fun v5_1 w =>
  pV P (binV .add 9 (.const (.string ⟨#[99]⟩)) (.tmp 5) (.string ⟨#[99]⟩) v5_1) fun v6_1 =>
  (kV P (Instr.loadAt 38 t1) w fun v3_1 w =>
  kV P (Instr.buildSlice 38 1 #[(0, v6_1)]) w fun v7_1 w =>
  kV P (Builtin.append_ #[38, 38] 38 #[v3_1, v7_1]) w fun v8_1 w =>
  kU P (Instr.storeAt 38 t1 v8_1) w fun _ w =>
  K (.tuple #[]) w) ∧
  (kV P (Instr.buildSlice 38 1 #[(0, v6_1)]) w fun v7_2 w =>
  kV P (Instr.loadAt 38 t1) w fun v3_2 w =>
  kV P (Builtin.append_ #[38, 38] 38 #[v3_2, v7_2]) w fun v8_2 w =>
  kU P (Instr.storeAt 38 t1 v8_2) w fun _ w =>
  K (.tuple #[]) w))) w
theorem F20_eq (P : Program) (t0 t1 : Value) (w : World) (K : Value → World → Prop) : funE P ⟨[(0, 999)], [], []⟩ Tryd.f20 [t0, t1] w K = F20 P t0 t1 w K := by kernel_rfl
theorem F20_ok (t0 t1 : Value) (w : World) (K : Value → World → Prop) (h : F20 Tryd.prog t0 t1 w K) : callsK Tryd.prog 20 #[t0, t1] w K := calls_of_eq mixedA Tryd.func20 (F20_eq _ t0 t1 w K) h

/-- mintmark/asm.digits -/
def F21 (P : Program) (t0 : Value) (w : World) (K : Value → World → Prop) : Prop :=
  kV P (convert 2 42 t0) w fun v6 w =>
  joinL (fun J0 =>
  kV P (binV .lss 2 (.tmp 7) (.const (.int .i64 0)) t0 (.int .i64 0)) w fun v8 w =>
  condK v8
  (kV P (Op.unary .neg v6) w fun v10 w =>
  J0 [v10] w)
  (J0 [v6] w)) fun s0 w => ∀ _ : Nat → Value,
  loopT (fun R2 s2 w => ∀ _ : Nat → Value,
  kV P (binV .rem 42 (.tmp 11) (.const (.int .u64 10)) (s2.getD 1 undef) (.int .u64 10)) w fun v12 w =>
  kV P (binV .add 42 (.const (.int .u64 48)) (.tmp 12) (.int .u64 48) v12) w fun v13 w =>
  kV P (convert 42 5 v13) w fun v14 w =>
  kV P (Instr.buildSlice 62 1 #[(0, v14)]) w fun v15 w =>
  kV P (Builtin.append_ #[62, 62] 62 #[v15, (s2.getD 0 undef)]) w fun v17 w =>
  kV P (binV .quo 42 (.tmp 18) (.const (.int .u64 10)) (s2.getD 1 undef) (.int .u64 10)) w fun v19 w =>
  kV P (binV .eql 42 (.tmp 20) (.const (.int .u64 0)) v19 (.int .u64 0)) w fun v21 w =>
  condK v21
  (kV P (binV .lss 2 (.tmp 22) (.const (.int .i64 0)) t0 (.int .i64 0)) w fun v23 w =>
  condK v23
  (kV P (convert 62 9 v17) w fun v25 w =>
  kV P (binV .add 9 (.const (.string ⟨#[45]⟩)) (.tmp 25) (.string ⟨#[45]⟩) v25) w fun v26 w =>
  K v26 w)
  (kV P (convert 62 9 v17) w fun v28 w =>
  K v28 w))
  (R2 [v17, v19] w)) [(.slice none 0 0), (s0.getD 0 undef)] w
theorem F21_eq (P : Program) (t0 : Value) (w : World) (K : Value → World → Prop) : funE P ⟨[], [(5, [4, 3])], [(4, [3])]⟩ Tryd.f21 [t0] w K = F21 P t0 w K := by kernel_rfl
theorem F21_ok (t0 : Value) (w : World) (K : Value → World → Prop) (h : F21 Tryd.prog t0 w K) : callsK Tryd.prog 21 #[t0] w K := calls_of_eq mixedA Tryd.func21 (F21_eq _ t0 w K) h

/-- mintmark/asm.Parse$1 -/
def F29 (P : Program) (t0 t1 : Value) (w : World) (K : Value → World → Prop) : Prop :=
  kN P (callN (.func (.func 30) #[] #[]) #[t0, (.string ⟨#[99]⟩)]) w fun v10 w =>
  kV P (Instr.extract v10 0) w fun v11 w =>
  kV P (Instr.extract v10 1) w fun v12 w =>
  kN P (callN (.func (.func 31) #[] #[]) #[v11]) w fun v15 w =>
  kV P (Instr.extract v15 0) w fun v16 w =>
  kV P (Instr.extract v15 1) w fun v17 w =>
  kV P (Instr.loadAt 4 t1) w fun v18 w =>
  joinK (fun J0 : Value → World → Prop => gdK (yb v18) true (fun k => k v12 w) w fun v20 w =>
  kN P (pickN v18 v20 (.bool false)) w fun v21_1 w =>
  J0 v21_1 w) fun v21 w =>
  joinK (fun J1 : Value → World → Prop => gdK (yb v21) true (fun k => k v17 w) w fun v23 w =>
  kN P (pickN v21 v23 (.bool false)) w fun v24_1 w =>
  J1 v24_1 w) fun v24 w =>
  joinK (fun J2 : Value → World → Prop => gdK (yb v24) true (fun k => k v16 w) w fun v26 w =>
  gdK (yb v24) true (fun k => kV P (binV .geq 2 (.tmp 26) (.const (.int .i64 0)) v26 (.int .i64 0)) w k) w fun v27 w =>
  kN P (pickN v24 v27 (.bool false)) w fun v28_1 w =>
  J2 v28_1 w) fun v28 w =>
  joinK (fun J3 : Value → World → Prop => gdK (yb v28) true (fun k => k v16 w) w fun v30 w =>
  gdK (yb v28) true (fun k => kV P (binV .leq 2 (.tmp 30) (.const (.int .i64 31)) v30 (.int .i64 31)) w k) w fun v31 w =>
  kN P (pickN v28 v31 (.bool false)) w fun v32_1 w =>
  J3 v32_1 w) fun v32 w =>
  kU P (Instr.storeAt 4 t1 v32) w fun _ w =>
  K v16 w
theorem F29_eq (P : Program) (t0 t1 : Value) (w : World) (K : Value → World → Prop) : funE P ⟨[], [], []⟩ Tryd.f29 [t0, t1] w K = F29 P t0 t1 w K := by kernel_rfl
theorem F29_ok (t0 t1 : Value) (w : World) (K : Value → World → Prop) (h : F29 Tryd.prog t0 t1 w K) : callsK Tryd.prog 29 #[t0, t1] w K := calls_of_eq mixedA Tryd.func29 (F29_eq _ t0 t1 w K) h

/-- mintmark/asm.number -/
def F31 (P : Program) (t0 : Value) (w : World) (K : Value → World → Prop) : Prop :=
  kN P (callN (.func (.func 30) #[] #[]) #[t0, (.string ⟨#[45]⟩)]) w fun v10 w =>
  kV P (Instr.extract v10 0) w fun v11 w =>
  kV P (Instr.extract v10 1) w fun v12 w =>
  kV P (binV .eql 9 (.tmp 13) (.const (.string ⟨#[]⟩)) v11 (.string ⟨#[]⟩)) w fun v14 w =>
  joinK (fun J0 : Value → World → Prop => gdK (yb v14) false (fun k => k v11 w) w fun v16 w =>
  gdK (yb v14) false (fun k => kV P (Builtin.len_ #[9] 3 #[v16]) w k) w fun v17 w =>
  gdK (yb v14) false (fun k => kV P (binV .gtr 3 (.tmp 17) (.const (.int .i64 10)) v17 (.int .i64 10)) w k) w fun v18 w =>
  kN P (pickN v14 (.bool true) v18) w fun v19_1 w =>
  J0 v19_1 w) fun v19 w =>
  joinK (fun J1 : Value → World → Prop => gdK (yb v19) false (fun k => k v11 w) w fun v21 w =>
  gdK (yb v19) false (fun k => kV P (Builtin.len_ #[9] 3 #[v21]) w k) w fun v22 w =>
  gdK (yb v19) false (fun k => kV P (binV .gtr 3 (.tmp 22) (.const (.int .i64 1)) v22 (.int .i64 1)) w k) w fun v23 w =>
  gdK (yb v19) false (fun k => k v23 w) w fun v24 w =>
  gdK (yb v24) true (fun k => k v11 w) w fun v25 w =>
  gdK (yb v24) true (fun k => kV P (Instr.index 9 v25 (.int .i64 0)) w k) w fun v26 w =>
  gdK (yb v24) true (fun k => kV P (binV .eql 5 (.tmp 26) (.const (.int .u8 48)) v26 (.int .u8 48)) w k) w fun v27 w =>
  gdK (yb v19) false (fun k => kN P (pickN v24 v27 (.bool false)) w k) w fun v28 w =>
  kN P (pickN v19 (.bool true) v28) w fun v29_1 w =>
  J1 v29_1 w) fun v29 w =>
  joinK (fun J2 : Value → World → Prop => gdK (yb v29) false (fun k => k v12 w) w fun v31 w =>
  gdK (yb v29) false (fun k => k v31 w) w fun v32 w =>
  gdK (yb v32) true (fun k => k v11 w) w fun v33 w =>
  gdK (yb v32) true (fun k => kV P (binV .eql 9 (.tmp 33) (.const (.string ⟨#[48]⟩)) v33 (.string ⟨#[48]⟩)) w k) w fun v34 w =>
  gdK (yb v29) false (fun k => kN P (pickN v32 v34 (.bool false)) w k) w fun v35 w =>
  kN P (pickN v29 (.bool true) v35) w fun v36_1 w =>
  J2 v36_1 w) fun v36 w =>
  condK v36
  (K (.tuple #[(.int .i64 0), (.bool false)]) w)
  (kV P (Builtin.len_ #[9] 3 #[v11]) w fun v38 w =>
  loopT (fun R3 s3 w => ∀ _ : Nat → Value,
  kV P (binV .lss 3 (.tmp 39) (.tmp 38) (s3.getD 1 undef) v38) w fun v40 w =>
  condK v40
  (kV P (Instr.index 9 v11 (s3.getD 1 undef)) w fun v44 w =>
  kV P (binV .lss 5 (.tmp 44) (.const (.int .u8 48)) v44 (.int .u8 48)) w fun v45 w =>
  joinK (fun J5 : Value → World → Prop => gdK (yb v45) false (fun k => k v11 w) w fun v47 w =>
  gdK (yb v45) false (fun k => k (s3.getD 1 undef) w) w fun v48 w =>
  gdK (yb v45) false (fun k => kV P (Instr.index 9 v47 v48) w k) w fun v49 w =>
  gdK (yb v45) false (fun k => kV P (binV .gtr 5 (.tmp 49) (.const (.int .u8 57)) v49 (.int .u8 57)) w k) w fun v50 w =>
  kN P (pickN v45 (.bool true) v50) w fun v51_1 w =>
  J5 v51_1 w) fun v51 w =>
  condK v51
  (K (.tuple #[(.int .i64 0), (.bool false)]) w)
  (kV P (binV .mul 2 (.tmp 52) (.const (.int .i64 10)) (s3.getD 0 undef) (.int .i64 10)) w fun v53 w =>
  kV P (Instr.index 9 v11 (s3.getD 1 undef)) w fun v56 w =>
  kV P (binV .sub 5 (.tmp 56) (.const (.int .u8 48)) v56 (.int .u8 48)) w fun v57 w =>
  kV P (convert 5 2 v57) w fun v58 w =>
  kV P (binV .add 2 (.tmp 53) (.tmp 58) v53 v58) w fun v59 w =>
  kV P (binV .add 3 (.tmp 39) (.const (.int .i64 1)) (s3.getD 1 undef) (.int .i64 1)) w fun v60 w =>
  R3 [v59, v60] w))
  (joinL (fun J6 =>
  condK v12
  (kV P (Op.unary .neg (s3.getD 0 undef)) w fun v63 w =>
  J6 [v63] w)
  (J6 [(s3.getD 0 undef)] w)) fun s6 w => ∀ _ : Nat → Value,
  K (.tuple #[(s6.getD 0 undef), (.bool true)]) w)) [(.int .i64 0), (.int .i64 0)] w)
theorem F31_eq (P : Program) (t0 : Value) (w : World) (K : Value → World → Prop) : funE P ⟨[], [(6, [6, 39])], [(14, [6])]⟩ Tryd.f31 [t0] w K = F31 P t0 w K := by kernel_rfl
theorem F31_ok (t0 : Value) (w : World) (K : Value → World → Prop) (h : F31 Tryd.prog t0 w K) : callsK Tryd.prog 31 #[t0] w K := calls_of_eq mixedA Tryd.func31 (F31_eq _ t0 w K) h

/-- mintmark/asm.lines -/
def F32 (P : Program) (t0 : Value) (w : World) (K : Value → World → Prop) : Prop :=
  kN P (callN (.func (.func 28) #[] #[]) #[t0, (.string ⟨#[10]⟩)]) w fun v9 w =>
  kV P (Builtin.len_ #[38] 3 #[v9]) w fun v10 w =>
  loopT (fun R0 s0 w => ∀ _ : Nat → Value,
  kV P (binV .lss 3 (.tmp 11) (.tmp 10) (s0.getD 1 undef) v10) w fun v12 w =>
  condK v12
  (joinL (fun J2 =>
  kV P (Instr.indexAt 38 v9 (s0.getD 1 undef)) w fun v14 w =>
  kV P (Instr.loadAt 9 v14) w fun v15 w =>
  kN P (callN (.func (.func 49) #[] #[]) #[v15, (.string ⟨#[32]⟩)]) w fun v17 w =>
  kV P (binV .eql 9 (.tmp 18) (.const (.string ⟨#[]⟩)) v17 (.string ⟨#[]⟩)) w fun v19 w =>
  joinK (fun J4 : Value → World → Prop => gdK (yb v19) false (fun k => k v17 w) w fun v21 w =>
  gdK (yb v19) false (fun k => kN P (callN (.func (.func 50) #[] #[]) #[v21, (.string ⟨#[35]⟩)]) w k) w fun v22 w =>
  kN P (pickN v19 (.bool true) v22) w fun v23_1 w =>
  J4 v23_1 w) fun v23 w =>
  condK v23
  (J2 [(s0.getD 0 undef)] w)
  (kN P (callN (.func (.func 51) #[] #[]) #[v17, (.string ⟨#[58]⟩)]) w fun v26 w =>
  kV P (Instr.extract v26 0) w fun v27 w =>
  kV P (Instr.extract v26 1) w fun v28 w =>
  joinL (fun J5 =>
  joinK (fun J7 : Value → World → Prop => gdK (yb v28) true (fun k => k v27 w) w fun v31 w =>
  gdK (yb v28) true (fun k => kN P (callN (.func (.func 52) #[] #[]) #[v31]) w k) w fun v32 w =>
  kN P (pickN v28 v32 (.bool false)) w fun v33_1 w =>
  J7 v33_1 w) fun v33 w =>
  condK v33
  (J5 [v33, v27] w)
  (J5 [v33, v17] w)) fun s5 w => ∀ _ : Nat → Value,
  kV P (binV .add 3 (.tmp 37) (.const (.int .i64 1)) (s0.getD 1 undef) (.int .i64 1)) w fun v38 w =>
  kV P (Instr.build 84 #[(0, v38), (1, (s5.getD 1 undef)), (2, (s5.getD 0 undef))]) w fun v41 w =>
  kV P (Instr.buildSlice 75 1 #[(0, v41)]) w fun v42 w =>
  kV P (Builtin.append_ #[75, 75] 75 #[(s0.getD 0 undef), v42]) w fun v43 w =>
  J2 [v43] w)) fun s2 w => ∀ _ : Nat → Value,
  kV P (binV .add 3 (.tmp 11) (.const (.int .i64 1)) (s0.getD 1 undef) (.int .i64 1)) w fun v44 w =>
  R0 [(s2.getD 0 undef), v44] w)
  (K (s0.getD 0 undef) w)) [(.slice none 0 0), (.int .i64 0)] w
theorem F32_eq (P : Program) (t0 : Value) (w : World) (K : Value → World → Prop) : funE P ⟨[], [(3, [3, 11])], [(12, [3]), (11, [7, 5])]⟩ Tryd.f32 [t0] w K = F32 P t0 w K := by kernel_rfl
theorem F32_ok (t0 : Value) (w : World) (K : Value → World → Prop) (h : F32 Tryd.prog t0 w K) : callsK Tryd.prog 32 #[t0] w K := calls_of_eq mixedA Tryd.func32 (F32_eq _ t0 w K) h

/-- mintmark/asm.count -/
def F33 (P : Program) (t0 : Value) (w : World) (K : Value → World → Prop) : Prop :=
  kV P (Instr.alloc 79 true (.tuple #[])) w fun v2 w =>
  kV P (Instr.makeMap 77 none) w fun v8 w =>
  kV P (Instr.makeMap 77 none) w fun v9 w =>
  kV P (Instr.build 79 #[(0, v8), (1, v9)]) w fun v10 w =>
  kV P (Instr.alloc 79 true (.tuple #[])) w fun v4 w =>
  kU P (Instr.storeAt 79 v4 v10) w fun _ w =>
  kV P (Builtin.len_ #[75] 3 #[t0]) w fun v12 w =>
  loopT (fun R0 s0 w => ∀ _ : Nat → Value,
  kV P (binV .lss 3 (.tmp 13) (.tmp 12) (s0.getD 1 undef) v12) w fun v14 w =>
  condK v14
  (joinL (fun J2 =>
  kV P (Instr.indexAt 75 t0 (s0.getD 1 undef)) w fun v15 w =>
  kV P (Instr.loadAt 84 v15) w fun v16 w =>
  kV P (Instr.alloc 84 true (.tuple #[])) w fun v7 w =>
  kU P (Instr.storeAt 84 v7 v16) w fun _ w =>
  kV P (Instr.fieldAt 84 v7 2) w fun v17 w =>
  kV P (Instr.loadAt 4 v17) w fun v18 w =>
  kV P (Op.unary .not v18) w fun v19 w =>
  condK v19
  (kV P (Instr.fieldAt 84 v7 1) w fun v21 w =>
  kV P (Instr.loadAt 9 v21) w fun v22 w =>
  kN P (callN (.func (.func 34) #[] #[]) #[v22]) w fun v23 w =>
  kV P (Builtin.len_ #[38] 3 #[v23]) w fun v24 w =>
  kV P (binV .add 3 (.tmp 20) (.tmp 24) (s0.getD 0 undef) v24) w fun v25 w =>
  J2 [v25] w)
  (kV P (Instr.fieldAt 79 v4 0) w fun v26 w =>
  kV P (Instr.loadAt 77 v26) w fun v27 w =>
  kV P (Instr.fieldAt 84 v7 1) w fun v28 w =>
  kV P (Instr.loadAt 9 v28) w fun v29 w =>
  kU P (Instr.mapUpdate 77 v27 v29 (s0.getD 0 undef)) w fun _ w =>
  kV P (Instr.fieldAt 79 v4 1) w fun v31 w =>
  kV P (Instr.loadAt 77 v31) w fun v32 w =>
  kV P (Instr.fieldAt 84 v7 1) w fun v33 w =>
  kV P (Instr.loadAt 9 v33) w fun v34 w =>
  kV P (Instr.lookup 77 v32 v34 false) w fun v35 w =>
  kV P (binV .add 3 (.tmp 35) (.const (.int .i64 1)) v35 (.int .i64 1)) w fun v36 w =>
  kU P (Instr.mapUpdate 77 v32 v34 v36) w fun _ w =>
  J2 [(s0.getD 0 undef)] w)) fun s2 w => ∀ _ : Nat → Value,
  kV P (binV .add 3 (.tmp 13) (.const (.int .i64 1)) (s0.getD 1 undef) (.int .i64 1)) w fun v37 w =>
  R0 [(s2.getD 0 undef), v37] w)
  (kV P (Instr.loadAt 79 v4) w fun v38 w =>
  kU P (Instr.storeAt 79 v2 v38) w fun _ w =>
  retV P 79 v2 w fun r4 =>
  K (.tuple #[r4, (s0.getD 0 undef)]) w)) [(.int .i64 0), (.int .i64 0)] w
theorem F33_eq (P : Program) (t0 : Value) (w : World) (K : Value → World → Prop) : funE P ⟨[], [(4, [5, 13])], [(10, [5])]⟩ Tryd.f33 [t0] w K = F33 P t0 w K := by kernel_rfl
theorem F33_ok (t0 : Value) (w : World) (K : Value → World → Prop) (h : F33 Tryd.prog t0 w K) : callsK Tryd.prog 33 #[t0] w K := calls_of_eq mixedA Tryd.func33 (F33_eq _ t0 w K) h

/-- mintmark/asm.stands -/
def F34 (P : Program) (t0 : Value) (w : World) (K : Value → World → Prop) : Prop :=
  kN P (callN (.func (.func 26) #[] #[]) #[t0, (.string ⟨#[32]⟩)]) w fun v10 w =>
  kV P (Instr.extract v10 0) w fun v11 w =>
  kV P (Instr.extract v10 1) w fun v12 w =>
  kV P (Instr.extract v10 2) w fun v13 w =>
  joinL (fun J0 =>
  kV P (binV .eql 9 (.tmp 15) (.const (.string ⟨#[110, 111, 112]⟩)) t0 (.string ⟨#[110, 111, 112]⟩)) w fun v16 w =>
  condK v16
  (kV P (Instr.buildSlice 38 1 #[(0, (.string ⟨#[97, 100, 100, 105, 32, 99, 48, 44, 32, 99, 48, 44, 32, 48]⟩))]) w fun v17 w =>
  K v17 w)
  (kV P (binV .eql 9 (.tmp 19) (.const (.string ⟨#[114, 101, 116]⟩)) t0 (.string ⟨#[114, 101, 116]⟩)) w fun v20 w =>
  condK v20
  (kV P (Instr.buildSlice 38 1 #[(0, (.string ⟨#[106, 97, 108, 114, 32, 99, 48, 44, 32, 99, 49, 44, 32, 48]⟩))]) w fun v21 w =>
  K v21 w)
  (kV P (Op.unary .not v13) w fun v24 w =>
  condK v24
  (J0 [] w)
  (kV P (binV .eql 9 (.tmp 26) (.const (.string ⟨#[106]⟩)) v11 (.string ⟨#[106]⟩)) w fun v27 w =>
  condK v27
  (kV P (binV .add 9 (.const (.string ⟨#[106, 97, 108, 32, 99, 48, 44, 32]⟩)) (.tmp 28) (.string ⟨#[106, 97, 108, 32, 99, 48, 44, 32]⟩) v12) w fun v29 w =>
  kV P (Instr.buildSlice 38 1 #[(0, v29)]) w fun v30 w =>
  K v30 w)
  (kV P (binV .eql 9 (.tmp 32) (.const (.string ⟨#[109, 118]⟩)) v11 (.string ⟨#[109, 118]⟩)) w fun v33 w =>
  condK v33
  (kV P (binV .add 9 (.const (.string ⟨#[99, 109, 111, 118, 101, 32]⟩)) (.tmp 34) (.string ⟨#[99, 109, 111, 118, 101, 32]⟩) v12) w fun v35 w =>
  kV P (Instr.buildSlice 38 1 #[(0, v35)]) w fun v36 w =>
  K v36 w)
  (kV P (binV .eql 9 (.tmp 38) (.const (.string ⟨#[108, 105]⟩)) v11 (.string ⟨#[108, 105]⟩)) w fun v39 w =>
  condK v39
  (kN P (callN (.func (.func 53) #[] #[]) #[v12]) w fun v42 w =>
  kV P (Instr.extract v42 0) w fun v43 w =>
  kV P (Instr.extract v42 1) w fun v44 w =>
  condK v44
  (K v43 w)
  (J0 [] w))
  (J0 [] w))))))) fun s0 w => ∀ _ : Nat → Value,
  kV P (Instr.buildSlice 38 1 #[(0, t0)]) w fun v48 w =>
  K v48 w
theorem F34_eq (P : Program) (t0 : Value) (w : World) (K : Value → World → Prop) : funE P ⟨[], [], [(15, [])]⟩ Tryd.f34 [t0] w K = F34 P t0 w K := by kernel_rfl
theorem F34_ok (t0 : Value) (w : World) (K : Value → World → Prop) (h : F34 Tryd.prog t0 w K) : callsK Tryd.prog 34 #[t0] w K := calls_of_eq mixedA Tryd.func34 (F34_eq _ t0 w K) h

/-- (mintmark/asm.marked).told -/
def F35 (P : Program) (t0 t1 t2 : Value) (w : World) (K : Value → World → Prop) : Prop :=
  kV P (Instr.box 79 t0) w fun v3 w =>
  kN P (callN (.func (.func 54) #[] #[]) #[t1, (.string ⟨#[32]⟩)]) w fun v13 w =>
  kV P (binV .lss 3 (.tmp 14) (.const (.int .i64 0)) v13 (.int .i64 0)) w fun v15 w =>
  condK v15
  (K t1 w)
  (kN P (callN (.func (.func 26) #[] #[]) #[t1, (.string ⟨#[32]⟩)]) w fun v19 w =>
  kV P (Instr.extract v19 0) w fun v20 w =>
  kV P (Instr.extract v19 1) w fun v21 w =>
  kV P (Instr.extract v19 2) w fun v22 w =>
  kN P (callN (.func (.func 27) #[] #[]) #[v20]) w fun v24 w =>
  kN P (callN (.func (.func 23) #[] #[]) #[v24]) w fun v25 w =>
  drewK (fun w =>
  sV P (Instr.fieldAt 79 v3 1) w fun v26 =>
  sV P (Instr.loadAt 77 v26) w fun v27 =>
  sV P (binV .add 3 (.tmp 29) (.const (.int .i64 1)) v13 (.int .i64 1)) w fun v30 =>
  sV P (Instr.sliceAt 9 t1 (some v30) none none) w fun v31 =>
  sV P (Instr.lookup 77 v27 v31 false) w fun v32 =>
  sV P (binV .neq 3 (.tmp 32) (.const (.int .i64 1)) v32 (.int .i64 1)) w fun v33 =>
  joinK (fun J0 : Value → Prop => gdS (yb v33) false (fun k => k v25) fun v35 =>
  gdS (yb v33) false (fun k => sV P (binV .neq 5 (.tmp 35) (.const (.int .u8 66)) v35 (.int .u8 66)) w k) fun v36 =>
  gdS (yb v33) false (fun k => k v36) fun v37 =>
  gdS (yb v37) true (fun k => k v25) fun v38 =>
  gdS (yb v37) true (fun k => sV P (binV .neq 5 (.tmp 38) (.const (.int .u8 74)) v38 (.int .u8 74)) w k) fun v39 =>
  gdS (yb v33) false (fun k => sN P (pickN v37 v39 (.bool false)) w k) fun v40 =>
  sN P (pickN v33 (.bool true) v40) w fun v41_1 =>
  J0 v41_1) fun v41 =>
  condK v41
  (K t1 w)
  (drewK (fun w =>
  pV P (binV .add 3 (.tmp 44) (.const (.int .i64 1)) v13 (.int .i64 1)) fun v45 =>
  pV P (Instr.sliceAt 9 t1 none (some v45) none) fun v46 =>
  pV P (Instr.fieldAt 79 v3 0) fun v47 =>
  pV P (binV .add 3 (.tmp 50) (.const (.int .i64 1)) v13 (.int .i64 1)) fun v51 =>
  pV P (Instr.sliceAt 9 t1 (some v51) none none) fun v52 =>
  kV P (Instr.loadAt 77 v47) w fun v48 w =>
  kV P (Instr.lookup 77 v48 v52 false) w fun v53 w =>
  pV P (binV .sub 3 (.tmp 53) (.tmp 54) v53 t2) fun v55 =>
  pV P (binV .mul 2 (.tmp 55) (.const (.int .i64 4)) v55 (.int .i64 4)) fun v56 =>
  kN P (callN (.func (.func 21) #[] #[]) #[v56]) w fun v57 w =>
  pV P (binV .add 9 (.tmp 46) (.tmp 57) v46 v57) fun v58 =>
  K v58 w) w)) w)
theorem F35_eq (P : Program) (t0 t1 t2 : Value) (w : World) (K : Value → World → Prop) : funE P ⟨[(8, 999)], [], []⟩ Tryd.f35 [t0, t1, t2] w K = F35 P t0 t1 t2 w K := by kernel_rfl
theorem F35_ok (t0 t1 t2 : Value) (w : World) (K : Value → World → Prop) (h : F35 Tryd.prog t0 t1 t2 w K) : callsK Tryd.prog 35 #[t0, t1, t2] w K := calls_of_eq mixedA Tryd.func35 (F35_eq _ t0 t1 t2 w K) h

/-- mintmark/asm.named -/
def F52 (P : Program) (t0 : Value) (w : World) (K : Value → World → Prop) : Prop :=
  kV P (binV .eql 9 (.tmp 5) (.const (.string ⟨#[]⟩)) t0 (.string ⟨#[]⟩)) w fun v6 w =>
  joinK (fun J0 : Value → World → Prop => gdK (yb v6) false (fun k => k t0 w) w fun v8 w =>
  gdK (yb v6) false (fun k => kV P (Builtin.len_ #[9] 3 #[v8]) w k) w fun v9 w =>
  gdK (yb v6) false (fun k => kV P (binV .gtr 3 (.tmp 9) (.const (.int .i64 64)) v9 (.int .i64 64)) w k) w fun v10 w =>
  kN P (pickN v6 (.bool true) v10) w fun v11_1 w =>
  J0 v11_1 w) fun v11 w =>
  joinK (fun J1 : Value → World → Prop => gdK (yb v11) false (fun k => k t0 w) w fun v13 w =>
  gdK (yb v11) false (fun k => kV P (Instr.index 9 v13 (.int .i64 0)) w k) w fun v14 w =>
  gdK (yb v11) false (fun k => kV P (binV .lss 5 (.tmp 14) (.const (.int .u8 97)) v14 (.int .u8 97)) w k) w fun v15 w =>
  kN P (pickN v11 (.bool true) v15) w fun v16_1 w =>
  J1 v16_1 w) fun v16 w =>
  joinK (fun J2 : Value → World → Prop => gdK (yb v16) false (fun k => k t0 w) w fun v18 w =>
  gdK (yb v16) false (fun k => kV P (Instr.index 9 v18 (.int .i64 0)) w k) w fun v19 w =>
  gdK (yb v16) false (fun k => kV P (binV .gtr 5 (.tmp 19) (.const (.int .u8 122)) v19 (.int .u8 122)) w k) w fun v20 w =>
  kN P (pickN v16 (.bool true) v20) w fun v21_1 w =>
  J2 v21_1 w) fun v21 w =>
  condK v21
  (K (.bool false) w)
  (kV P (Builtin.len_ #[9] 3 #[t0]) w fun v23 w =>
  loopT (fun R3 s3 w => ∀ _ : Nat → Value,
  kV P (binV .lss 3 (.tmp 24) (.tmp 23) (s3.getD 0 undef) v23) w fun v25 w =>
  condK v25
  (kV P (Instr.index 9 t0 (s3.getD 0 undef)) w fun v29 w =>
  kV P (binV .lss 5 (.tmp 30) (.const (.int .u8 97)) v29 (.int .u8 97)) w fun v31 w =>
  joinK (fun J5 : Value → World → Prop => gdK (yb v31) false (fun k => k v29 w) w fun v33 w =>
  gdK (yb v31) false (fun k => kV P (binV .gtr 5 (.tmp 33) (.const (.int .u8 122)) v33 (.int .u8 122)) w k) w fun v34 w =>
  kN P (pickN v31 (.bool true) v34) w fun v35_1 w =>
  J5 v35_1 w) fun v35 w =>
  joinK (fun J6 : Value → World → Prop => gdK (yb v35) true (fun k => k v29 w) w fun v37 w =>
  gdK (yb v35) true (fun k => kV P (binV .lss 5 (.tmp 37) (.const (.int .u8 48)) v37 (.int .u8 48)) w k) w fun v38 w =>
  gdK (yb v35) true (fun k => k v38 w) w fun v39 w =>
  gdK (yb v39) false (fun k => k v29 w) w fun v40 w =>
  gdK (yb v39) false (fun k => kV P (binV .gtr 5 (.tmp 40) (.const (.int .u8 57)) v40 (.int .u8 57)) w k) w fun v41 w =>
  gdK (yb v35) true (fun k => kN P (pickN v39 (.bool true) v41) w k) w fun v42 w =>
  kN P (pickN v35 v42 (.bool false)) w fun v43_1 w =>
  J6 v43_1 w) fun v43 w =>
  joinK (fun J7 : Value → World → Prop => gdK (yb v43) true (fun k => k v29 w) w fun v45 w =>
  gdK (yb v43) true (fun k => kV P (binV .neq 5 (.tmp 45) (.const (.int .u8 95)) v45 (.int .u8 95)) w k) w fun v46 w =>
  kN P (pickN v43 v46 (.bool false)) w fun v47_1 w =>
  J7 v47_1 w) fun v47 w =>
  condK v47
  (K (.bool false) w)
  (kV P (binV .add 3 (.tmp 24) (.const (.int .i64 1)) (s3.getD 0 undef) (.int .i64 1)) w fun v48 w =>
  R3 [v48] w))
  (K (.bool true) w)) [(.int .i64 0)] w)
theorem F52_eq (P : Program) (t0 : Value) (w : World) (K : Value → World → Prop) : funE P ⟨[], [(4, [24])], []⟩ Tryd.f52 [t0] w K = F52 P t0 w K := by kernel_rfl
theorem F52_ok (t0 : Value) (w : World) (K : Value → World → Prop) (h : F52 Tryd.prog t0 w K) : callsK Tryd.prog 52 #[t0] w K := calls_of_eq mixedA Tryd.func52 (F52_eq _ t0 w K) h

end Go.Proofs.YtobkjnmdbkieeaaDoor
