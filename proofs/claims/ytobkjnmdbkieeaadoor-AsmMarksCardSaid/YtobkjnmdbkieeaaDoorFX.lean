/- The formulas of functions of this seat, each tied to its calls; conditions: none. -/
import Derived.Test.YtobkjnmdbkieeaaDoorProg
import Derived.Test.YtobkjnmdbkieeaaDoorFx
import Derived.KernelRfl
namespace Go.Proofs.YtobkjnmdbkieeaaDoor
open Go.Fx
set_option linter.unusedVariables false
set_option linter.constructorNameAsVariable false
set_option maxRecDepth 100000
theorem mixedX : Tryd.prog.follows .mixedOrders = true := by kernel_rfl
/-- mintmark/inst.Encode -/
def F5 (P : Program) (t0 : Value) (w : World) (K : Value → World → Prop) : Prop :=
  kV P (Instr.box 28 t0) w fun v1 w =>
  kV P (Instr.fieldAt 28 v1 0) w fun v14 w =>
  kV P (Instr.loadAt 3 v14) w fun v15 w =>
  kN P (callN (.func (.func 12) #[] #[]) #[v15]) w fun v16 w =>
  kV P (Instr.extract v16 0) w fun v17 w =>
  kV P (Instr.extract v16 1) w fun v18 w =>
  kV P (Instr.alloc 44 true (.tuple #[])) w fun v4 w =>
  kU P (Instr.storeAt 44 v4 v17) w fun _ w =>
  joinL (fun J0 =>
  drewK (fun w =>
  pV P (Op.unary .not v18) fun v20 =>
  gdP (yb v20) false (fun k => pV P (Instr.fieldAt 44 v4 1) k) fun v22 =>
  gdP (yb v20) false (fun k => pV P (Instr.fieldAt 28 v1 4) k) fun v25 =>
  (gdK (yb v20) false (fun k => kV P (Instr.loadAt 5 v22) w k) w fun v23 w =>
  (gdK (yb v20) false (fun k => kN P (callN (.func (.func 13) #[] #[]) #[v23]) w k) w fun v24 w =>
  gdK (yb v20) false (fun k => kV P (Instr.loadAt 2 v25) w k) w fun v26 w =>
  gdK (yb v20) false (fun k => kN P (callN (.func (.func 14) #[] #[]) #[v24, v26]) w k) w fun v27 w =>
  gdP (yb v20) false (fun k => pV P (Op.unary .not v27) k) fun v28 =>
  pN P (pickN v20 (.bool true) v28) fun v29 =>
  J0 [v29] w) ∧
  (gdK (yb v20) false (fun k => kV P (Instr.loadAt 2 v25) w k) w fun v26_1 w =>
  gdK (yb v20) false (fun k => kN P (callN (.func (.func 13) #[] #[]) #[v23]) w k) w fun v24_1 w =>
  gdK (yb v20) false (fun k => kN P (callN (.func (.func 14) #[] #[]) #[v24_1, v26_1]) w k) w fun v27_1 w =>
  gdP (yb v20) false (fun k => pV P (Op.unary .not v27_1) k) fun v28_1 =>
  pN P (pickN v20 (.bool true) v28_1) fun v29_1 =>
  J0 [v29_1] w)) ∧
  (gdK (yb v20) false (fun k => kV P (Instr.loadAt 2 v25) w k) w fun v26_2 w =>
  gdK (yb v20) false (fun k => kV P (Instr.loadAt 5 v22) w k) w fun v23_1 w =>
  gdK (yb v20) false (fun k => kN P (callN (.func (.func 13) #[] #[]) #[v23_1]) w k) w fun v24_2 w =>
  gdK (yb v20) false (fun k => kN P (callN (.func (.func 14) #[] #[]) #[v24_2, v26_2]) w k) w fun v27_2 w =>
  gdP (yb v20) false (fun k => pV P (Op.unary .not v27_2) k) fun v28_2 =>
  pN P (pickN v20 (.bool true) v28_2) fun v29_2 =>
  J0 [v29_2] w)) w) fun s0 w => ∀ _ : Nat → Value,
  condK (s0.getD 0 undef)
  (K (.tuple #[(.int .u32 0), (.bool false)]) w)
  (kV P (Instr.loadAt 44 v4) w fun v31 w =>
  kN P (callN (.func (.func 15) #[] #[]) #[v31]) w fun v32 w =>
  kV P (Instr.extract v32 0) w fun v33 w =>
  kV P (Instr.extract v32 1) w fun v34 w =>
  kV P (Instr.fieldAt 44 v4 1) w fun v36 w =>
  kV P (Instr.loadAt 5 v36) w fun v37 w =>
  kN P (callN (.func (.func 16) #[] #[]) #[v37]) w fun v38 w =>
  kV P (Instr.extract v38 0) w fun v39 w =>
  kV P (Instr.extract v38 1) w fun v40 w =>
  kV P (Instr.extract v38 2) w fun v41 w =>
  joinL (fun J2 =>
  drewK (fun w =>
  pV P (Instr.fieldAt 44 v4 1) fun v42 =>
  pV P (Instr.fieldAt 28 v1 4) fun v46 =>
  (kV P (Instr.loadAt 5 v42) w fun v43 w =>
  (kN P (callN (.func (.func 13) #[] #[]) #[v43]) w fun v44 w =>
  kV P (Instr.loadAt 2 v46) w fun v47 w =>
  kN P (callN (.func (.func 17) #[] #[]) #[v44, v33, v47]) w fun v48 w =>
  J2 [v48] w) ∧
  (kV P (Instr.loadAt 2 v46) w fun v47_1 w =>
  kN P (callN (.func (.func 13) #[] #[]) #[v43]) w fun v44_1 w =>
  kN P (callN (.func (.func 17) #[] #[]) #[v44_1, v33, v47_1]) w fun v48_1 w =>
  J2 [v48_1] w)) ∧
  (kV P (Instr.loadAt 2 v46) w fun v47_2 w =>
  kV P (Instr.loadAt 5 v42) w fun v43_1 w =>
  kN P (callN (.func (.func 13) #[] #[]) #[v43_1]) w fun v44_2 w =>
  kN P (callN (.func (.func 17) #[] #[]) #[v44_2, v33, v47_2]) w fun v48_2 w =>
  J2 [v48_2] w)) w) fun s2 w => ∀ _ : Nat → Value,
  kV P (Instr.fieldAt 28 v1 1) w fun v50 w =>
  kV P (Instr.loadAt 3 v50) w fun v51 w =>
  kV P (Instr.build 57 #[(0, v39), (1, (.int .i64 7)), (2, v51)]) w fun v52 w =>
  kV P (Instr.fieldAt 28 v1 2) w fun v54 w =>
  kV P (Instr.loadAt 3 v54) w fun v55 w =>
  kV P (Instr.build 57 #[(0, v40), (1, (.int .i64 15)), (2, v55)]) w fun v56 w =>
  kV P (Instr.fieldAt 28 v1 3) w fun v58 w =>
  kV P (Instr.loadAt 3 v58) w fun v59 w =>
  kV P (Instr.build 57 #[(0, v41), (1, (.int .i64 20)), (2, v59)]) w fun v60 w =>
  kV P (Instr.build 58 #[(0, v52), (1, v56), (2, v60)]) w fun v61 w =>
  loopT (fun R4 s4 w => ∀ _ : Nat → Value,
  kV P (binV .lss 3 (.tmp 62) (.const (.int .i64 3)) (s4.getD 1 undef) (.int .i64 3)) w fun v63 w =>
  condK v63
  (joinL (fun J6 =>
  kV P (Instr.index 58 v61 (s4.getD 1 undef)) w fun v64 w =>
  kV P (Instr.alloc 57 true (.tuple #[])) w fun v12 w =>
  kU P (Instr.storeAt 57 v12 v64) w fun _ w =>
  kV P (Instr.fieldAt 57 v12 0) w fun v65 w =>
  kV P (Instr.loadAt 4 v65) w fun v66 w =>
  joinK (fun J8 : Value → World → Prop => gdK (yb v66) true (fun k => kV P (Instr.fieldAt 57 v12 2) w k) w fun v68 w =>
  gdK (yb v66) true (fun k => kV P (Instr.loadAt 3 v68) w k) w fun v69 w =>
  gdK (yb v66) true (fun k => kN P (callN (.func (.func 18) #[] #[]) #[v69, (.int .i64 5), (.bool false)]) w k) w fun v70 w =>
  gdK (yb v66) true (fun k => kV P (Op.unary .not v70) w k) w fun v71 w =>
  kN P (pickN v66 v71 (.bool false)) w fun v72_1 w =>
  J8 v72_1 w) fun v72 w =>
  condK v72
  (K (.tuple #[(.int .u32 0), (.bool false)]) w)
  (kV P (Instr.fieldAt 57 v12 0) w fun v73 w =>
  kV P (Instr.loadAt 4 v73) w fun v74 w =>
  condK v74
  (kV P (Instr.fieldAt 57 v12 1) w fun v76 w =>
  kV P (Instr.loadAt 3 v76) w fun v77 w =>
  kV P (Instr.fieldAt 57 v12 2) w fun v78 w =>
  kV P (Instr.loadAt 3 v78) w fun v79 w =>
  kV P (convert 3 42 v79) w fun v80 w =>
  kN P (callN (.func (.func 19) #[] #[]) #[(s4.getD 0 undef), v77, (.int .i64 5), v80]) w fun v81 w =>
  J6 [v81] w)
  (J6 [(s4.getD 0 undef)] w))) fun s6 w => ∀ _ : Nat → Value,
  kV P (binV .add 3 (.tmp 62) (.const (.int .i64 1)) (s4.getD 1 undef) (.int .i64 1)) w fun v82 w =>
  R4 [(s6.getD 0 undef), v82] w)
  (kV P (convert 42 24 (s4.getD 0 undef)) w fun v84 w =>
  K (.tuple #[v84, (.bool true)]) w)) [(s2.getD 0 undef), (.int .i64 0)] w)
theorem F5_eq (P : Program) (t0 : Value) (w : World) (K : Value → World → Prop) : funE P ⟨[(2, 999), (6, 999)], [(8, [6, 62])], [(3, [29]), (7, [6]), (14, [6])]⟩ Tryd.f5 [t0] w K = F5 P t0 w K := by kernel_rfl
theorem F5_ok (t0 : Value) (w : World) (K : Value → World → Prop) (h : F5 Tryd.prog t0 w K) : callsK Tryd.prog 5 #[t0] w K := calls_of_eq mixedX Tryd.func5 (F5_eq _ t0 w K) h

/-- mintmark/inst.Decode -/
def F11 (P : Program) (t0 : Value) (w : World) (K : Value → World → Prop) : Prop :=
  kV P (Instr.alloc 28 true (.tuple #[])) w fun v2 w =>
  kV P (convert 24 42 t0) w fun v14 w =>
  kN P (callN (.func (.func 36) #[] #[]) #[]) w fun v15 w =>
  loopT (fun R0 s0 w => ∀ _ : Nat → Value,
  kV P (binV .lss 3 (.tmp 16) (.const (.int .i64 69)) (s0.getD 0 undef) (.int .i64 69)) w fun v17 w =>
  condK v17
  (kV P (Instr.index 87 v15 (s0.getD 0 undef)) w fun v19 w =>
  kV P (Instr.alloc 44 true (.tuple #[])) w fun v6 w =>
  kU P (Instr.storeAt 44 v6 v19) w fun _ w =>
  kV P (Instr.loadAt 44 v6) w fun v21 w =>
  kN P (callN (.func (.func 15) #[] #[]) #[v21]) w fun v22 w =>
  kV P (Instr.extract v22 0) w fun v23 w =>
  kV P (Instr.extract v22 1) w fun v24 w =>
  kV P (binV .and 42 (.tmp 25) (.tmp 26) v14 v24) w fun v27 w =>
  kV P (binV .neq 42 (.tmp 27) (.tmp 28) v27 v23) w fun v29 w =>
  condK v29
  (kV P (binV .add 3 (.tmp 16) (.const (.int .i64 1)) (s0.getD 0 undef) (.int .i64 1)) w fun v61 w =>
  R0 [v61] w)
  (kV P (binV .add 3 (.tmp 30) (.const (.int .i64 1)) (s0.getD 0 undef) (.int .i64 1)) w fun v31 w =>
  kV P (Instr.fieldAt 44 v6 1) w fun v32 w =>
  kV P (Instr.loadAt 5 v32) w fun v33 w =>
  kN P (callN (.func (.func 13) #[] #[]) #[v33]) w fun v34 w =>
  kN P (callN (.func (.func 37) #[] #[]) #[v34, v14]) w fun v36 w =>
  kV P (Instr.build 28 #[(0, v31), (4, v36)]) w fun v37 w =>
  kV P (Instr.alloc 28 true (.tuple #[])) w fun v9 w =>
  kU P (Instr.storeAt 28 v9 v37) w fun _ w =>
  kV P (Instr.fieldAt 44 v6 1) w fun v39 w =>
  kV P (Instr.loadAt 5 v39) w fun v40 w =>
  kN P (callN (.func (.func 16) #[] #[]) #[v40]) w fun v41 w =>
  kV P (Instr.extract v41 0) w fun v42 w =>
  kV P (Instr.extract v41 1) w fun v43 w =>
  kV P (Instr.extract v41 2) w fun v44 w =>
  joinL (fun J2 =>
  condK v42
  (kN P (callN (.func (.func 38) #[] #[]) #[v14, (.int .i64 7), (.int .i64 5)]) w fun v47 w =>
  kV P (convert 42 3 v47) w fun v48 w =>
  kV P (Instr.fieldAt 28 v9 1) w fun v49 w =>
  kU P (Instr.storeAt 3 v49 v48) w fun _ w =>
  J2 [] w)
  (J2 [] w)) fun s2 w => ∀ _ : Nat → Value,
  joinL (fun J4 =>
  condK v43
  (kN P (callN (.func (.func 38) #[] #[]) #[v14, (.int .i64 15), (.int .i64 5)]) w fun v52 w =>
  kV P (convert 42 3 v52) w fun v53 w =>
  kV P (Instr.fieldAt 28 v9 2) w fun v54 w =>
  kU P (Instr.storeAt 3 v54 v53) w fun _ w =>
  J4 [] w)
  (J4 [] w)) fun s4 w => ∀ _ : Nat → Value,
  joinL (fun J6 =>
  condK v44
  (kN P (callN (.func (.func 38) #[] #[]) #[v14, (.int .i64 20), (.int .i64 5)]) w fun v57 w =>
  kV P (convert 42 3 v57) w fun v58 w =>
  kV P (Instr.fieldAt 28 v9 3) w fun v59 w =>
  kU P (Instr.storeAt 3 v59 v58) w fun _ w =>
  J6 [] w)
  (J6 [] w)) fun s6 w => ∀ _ : Nat → Value,
  kV P (Instr.loadAt 28 v9) w fun v60 w =>
  kU P (Instr.storeAt 28 v2 v60) w fun _ w =>
  retV P 28 v2 w fun r8 =>
  K (.tuple #[r8, (.bool true)]) w))
  (kV P (Instr.build 28 #[]) w fun v62 w =>
  kU P (Instr.storeAt 28 v2 v62) w fun _ w =>
  retV P 28 v2 w fun r9 =>
  K (.tuple #[r9, (.bool false)]) w)) [(.int .i64 0)] w
theorem F11_eq (P : Program) (t0 : Value) (w : World) (K : Value → World → Prop) : funE P ⟨[], [(3, [16])], [(11, []), (13, []), (15, [])]⟩ Tryd.f11 [t0] w K = F11 P t0 w K := by kernel_rfl
theorem F11_ok (t0 : Value) (w : World) (K : Value → World → Prop) (h : F11 Tryd.prog t0 w K) : callsK Tryd.prog 11 #[t0] w K := calls_of_eq mixedX Tryd.func11 (F11_eq _ t0 w K) h

/-- mintmark/inst.of -/
def F12 (P : Program) (t0 : Value) (w : World) (K : Value → World → Prop) : Prop :=
  kV P (Instr.alloc 44 true (.tuple #[])) w fun v2 w =>
  kV P (binV .lss 3 (.tmp 4) (.const (.int .i64 1)) t0 (.int .i64 1)) w fun v5 w =>
  joinK (fun J0 : Value → World → Prop => gdK (yb v5) false (fun k => k t0 w) w fun v7 w =>
  gdK (yb v5) false (fun k => kV P (binV .gtr 3 (.tmp 7) (.const (.int .i64 69)) v7 (.int .i64 69)) w k) w fun v8 w =>
  kN P (pickN v5 (.bool true) v8) w fun v9_1 w =>
  J0 v9_1 w) fun v9 w =>
  condK v9
  (kV P (Instr.build 44 #[]) w fun v10 w =>
  kU P (Instr.storeAt 44 v2 v10) w fun _ w =>
  retV P 44 v2 w fun r1 =>
  K (.tuple #[r1, (.bool false)]) w)
  (kN P (callN (.func (.func 36) #[] #[]) #[]) w fun v11 w =>
  kV P (binV .sub 3 (.tmp 12) (.const (.int .i64 1)) t0 (.int .i64 1)) w fun v13 w =>
  kV P (Instr.index 87 v11 v13) w fun v14 w =>
  kU P (Instr.storeAt 44 v2 v14) w fun _ w =>
  retV P 44 v2 w fun r2 =>
  K (.tuple #[r2, (.bool true)]) w)
theorem F12_eq (P : Program) (t0 : Value) (w : World) (K : Value → World → Prop) : funE P ⟨[], [], []⟩ Tryd.f12 [t0] w K = F12 P t0 w K := by kernel_rfl
theorem F12_ok (t0 : Value) (w : World) (K : Value → World → Prop) (h : F12 Tryd.prog t0 w K) : callsK Tryd.prog 12 #[t0] w K := calls_of_eq mixedX Tryd.func12 (F12_eq _ t0 w K) h

/-- mintmark/inst.laid -/
def F13 (P : Program) (t0 : Value) (w : World) (K : Value → World → Prop) : Prop :=
  kV P (Instr.alloc 49 true (.tuple #[])) w fun v2 w =>
  joinL (fun J0 =>
  kV P (binV .eql 5 (.tmp 3) (.const (.int .u8 73)) t0 (.int .u8 73)) w fun v5 w =>
  condK v5
  (J0 [v5] w)
  (kV P (binV .eql 5 (.tmp 3) (.const (.int .u8 67)) t0 (.int .u8 67)) w fun v6 w =>
  J0 [v6] w)) fun s0 w => ∀ _ : Nat → Value,
  condK (s0.getD 0 undef)
  (kV P (Instr.build 92 #[(0, (.int .i64 0)), (1, (.int .i64 12)), (2, (.int .i64 20))]) w fun v7 w =>
  kV P (Instr.buildSlice 47 1 #[(0, v7)]) w fun v8 w =>
  kV P (binV .eql 5 (.tmp 9) (.const (.int .u8 73)) t0 (.int .u8 73)) w fun v10 w =>
  kV P (Instr.build 49 #[(0, v8), (1, (.int .i64 12)), (2, v10), (3, (.int .i64 0))]) w fun v11 w =>
  kU P (Instr.storeAt 49 v2 v11) w fun _ w =>
  retV P 49 v2 w fun r2 =>
  K r2 w)
  (kV P (binV .eql 5 (.tmp 3) (.const (.int .u8 72)) t0 (.int .u8 72)) w fun v13 w =>
  condK v13
  (kV P (Instr.build 92 #[(0, (.int .i64 0)), (1, (.int .i64 6)), (2, (.int .i64 20))]) w fun v14 w =>
  kV P (Instr.buildSlice 47 1 #[(0, v14)]) w fun v15 w =>
  kV P (Instr.build 49 #[(0, v15), (1, (.int .i64 6)), (2, (.bool false)), (3, (.int .i64 0))]) w fun v16 w =>
  kU P (Instr.storeAt 49 v2 v16) w fun _ w =>
  retV P 49 v2 w fun r3 =>
  K r3 w)
  (kV P (binV .eql 5 (.tmp 3) (.const (.int .u8 83)) t0 (.int .u8 83)) w fun v18 w =>
  condK v18
  (kV P (Instr.build 92 #[(0, (.int .i64 0)), (1, (.int .i64 5)), (2, (.int .i64 7))]) w fun v19 w =>
  kV P (Instr.build 92 #[(0, (.int .i64 5)), (1, (.int .i64 7)), (2, (.int .i64 25))]) w fun v20 w =>
  kV P (Instr.buildSlice 47 2 #[(0, v19), (1, v20)]) w fun v21 w =>
  kV P (Instr.build 49 #[(0, v21), (1, (.int .i64 12)), (2, (.bool true)), (3, (.int .i64 0))]) w fun v22 w =>
  kU P (Instr.storeAt 49 v2 v22) w fun _ w =>
  retV P 49 v2 w fun r4 =>
  K r4 w)
  (kV P (binV .eql 5 (.tmp 3) (.const (.int .u8 66)) t0 (.int .u8 66)) w fun v24 w =>
  condK v24
  (kV P (Instr.build 92 #[(0, (.int .i64 1)), (1, (.int .i64 4)), (2, (.int .i64 8))]) w fun v25 w =>
  kV P (Instr.build 92 #[(0, (.int .i64 5)), (1, (.int .i64 6)), (2, (.int .i64 25))]) w fun v26 w =>
  kV P (Instr.build 92 #[(0, (.int .i64 11)), (1, (.int .i64 1)), (2, (.int .i64 7))]) w fun v27 w =>
  kV P (Instr.build 92 #[(0, (.int .i64 12)), (1, (.int .i64 1)), (2, (.int .i64 31))]) w fun v28 w =>
  kV P (Instr.buildSlice 47 4 #[(0, v25), (1, v26), (2, v27), (3, v28)]) w fun v29 w =>
  kV P (Instr.build 49 #[(0, v29), (1, (.int .i64 13)), (2, (.bool true)), (3, (.int .i64 1))]) w fun v30 w =>
  kU P (Instr.storeAt 49 v2 v30) w fun _ w =>
  retV P 49 v2 w fun r5 =>
  K r5 w)
  (kV P (binV .eql 5 (.tmp 3) (.const (.int .u8 85)) t0 (.int .u8 85)) w fun v32 w =>
  condK v32
  (kV P (Instr.build 92 #[(0, (.int .i64 12)), (1, (.int .i64 20)), (2, (.int .i64 12))]) w fun v33 w =>
  kV P (Instr.buildSlice 47 1 #[(0, v33)]) w fun v34 w =>
  kV P (Instr.build 49 #[(0, v34), (1, (.int .i64 32)), (2, (.bool true)), (3, (.int .i64 12))]) w fun v35 w =>
  kU P (Instr.storeAt 49 v2 v35) w fun _ w =>
  retV P 49 v2 w fun r6 =>
  K r6 w)
  (kV P (binV .eql 5 (.tmp 3) (.const (.int .u8 74)) t0 (.int .u8 74)) w fun v37 w =>
  condK v37
  (kV P (Instr.build 92 #[(0, (.int .i64 12)), (1, (.int .i64 8)), (2, (.int .i64 12))]) w fun v38 w =>
  kV P (Instr.build 92 #[(0, (.int .i64 11)), (1, (.int .i64 1)), (2, (.int .i64 20))]) w fun v39 w =>
  kV P (Instr.build 92 #[(0, (.int .i64 1)), (1, (.int .i64 10)), (2, (.int .i64 21))]) w fun v40 w =>
  kV P (Instr.build 92 #[(0, (.int .i64 20)), (1, (.int .i64 1)), (2, (.int .i64 31))]) w fun v41 w =>
  kV P (Instr.buildSlice 47 4 #[(0, v38), (1, v39), (2, v40), (3, v41)]) w fun v42 w =>
  kV P (Instr.build 49 #[(0, v42), (1, (.int .i64 21)), (2, (.bool true)), (3, (.int .i64 1))]) w fun v43 w =>
  kU P (Instr.storeAt 49 v2 v43) w fun _ w =>
  retV P 49 v2 w fun r7 =>
  K r7 w)
  (kV P (Instr.build 49 #[]) w fun v44 w =>
  kU P (Instr.storeAt 49 v2 v44) w fun _ w =>
  retV P 49 v2 w fun r8 =>
  K r8 w))))))
theorem F13_eq (P : Program) (t0 : Value) (w : World) (K : Value → World → Prop) : funE P ⟨[], [], [(4, [4])]⟩ Tryd.f13 [t0] w K = F13 P t0 w K := by kernel_rfl
theorem F13_ok (t0 : Value) (w : World) (K : Value → World → Prop) (h : F13 Tryd.prog t0 w K) : callsK Tryd.prog 13 #[t0] w K := calls_of_eq mixedX Tryd.func13 (F13_eq _ t0 w K) h

/-- (mintmark/inst.layout).fits -/
def F14 (P : Program) (t0 t1 : Value) (w : World) (K : Value → World → Prop) : Prop :=
  kV P (Instr.box 49 t0) w fun v2 w =>
  kV P (Instr.fieldAt 49 v2 0) w fun v5 w =>
  kV P (Instr.loadAt 47 v5) w fun v6 w =>
  kV P (Builtin.len_ #[47] 3 #[v6]) w fun v7 w =>
  kV P (binV .eql 3 (.tmp 7) (.const (.int .i64 0)) v7 (.int .i64 0)) w fun v8 w =>
  joinK (fun J0 : Value → World → Prop => gdK (yb v8) false (fun k => k t1 w) w fun v10 w =>
  gdK (yb v8) false (fun k => kV P (Instr.fieldAt 49 v2 1) w k) w fun v11 w =>
  gdK (yb v8) false (fun k => kV P (Instr.loadAt 3 v11) w k) w fun v12 w =>
  gdK (yb v8) false (fun k => kV P (Instr.fieldAt 49 v2 2) w k) w fun v13 w =>
  gdK (yb v8) false (fun k => kV P (Instr.loadAt 4 v13) w k) w fun v14 w =>
  gdK (yb v8) false (fun k => kN P (callN (.func (.func 18) #[] #[]) #[v10, v12, v14]) w k) w fun v15 w =>
  gdK (yb v8) false (fun k => k v15 w) w fun v16 w =>
  gdK (yb v16) true (fun k => k t1 w) w fun v17 w =>
  gdK (yb v16) true (fun k => kV P (convert 2 42 v17) w k) w fun v18 w =>
  gdK (yb v16) true (fun k => kV P (Instr.fieldAt 49 v2 3) w k) w fun v19 w =>
  gdK (yb v16) true (fun k => kV P (Instr.loadAt 3 v19) w k) w fun v20 w =>
  gdK (yb v16) true (fun k => kN P (callN (.func (.func 39) #[] #[]) #[v20]) w k) w fun v21 w =>
  gdK (yb v16) true (fun k => kV P (binV .and 42 (.tmp 18) (.tmp 21) v18 v21) w k) w fun v22 w =>
  gdK (yb v16) true (fun k => kV P (binV .eql 42 (.tmp 22) (.const (.int .u64 0)) v22 (.int .u64 0)) w k) w fun v23 w =>
  gdK (yb v8) false (fun k => kN P (pickN v16 v23 (.bool false)) w k) w fun v24 w =>
  kN P (pickN v8 (.bool true) v24) w fun v25_1 w =>
  J0 v25_1 w) fun v25 w =>
  K v25 w
theorem F14_eq (P : Program) (t0 t1 : Value) (w : World) (K : Value → World → Prop) : funE P ⟨[], [], []⟩ Tryd.f14 [t0, t1] w K = F14 P t0 t1 w K := by kernel_rfl
theorem F14_ok (t0 t1 : Value) (w : World) (K : Value → World → Prop) (h : F14 Tryd.prog t0 t1 w K) : callsK Tryd.prog 14 #[t0, t1] w K := calls_of_eq mixedX Tryd.func14 (F14_eq _ t0 t1 w K) h

/-- (mintmark/inst.row).fixed -/
def F15 (P : Program) (t0 : Value) (w : World) (K : Value → World → Prop) : Prop :=
  kV P (Instr.box 44 t0) w fun v1 w =>
  kV P (Instr.alloc 42 true (.tuple #[])) w fun v2 w =>
  kV P (Instr.alloc 42 true (.tuple #[])) w fun v3 w =>
  kV P (Instr.fieldAt 44 v1 2) w fun v7 w =>
  kV P (Instr.loadAt 42 v7) w fun v8 w =>
  kN P (callN (.func (.func 40) #[] #[v2, v3]) #[(.int .i64 0), (.int .i64 7), v8]) w fun v9 w =>
  kV P (Instr.fieldAt 44 v1 1) w fun v10 w =>
  kV P (Instr.loadAt 5 v10) w fun v11 w =>
  joinL (fun J0 =>
  kV P (binV .eql 5 (.tmp 11) (.const (.int .u8 85)) v11 (.int .u8 85)) w fun v13 w =>
  condK v13
  (J0 [v13] w)
  (kV P (binV .eql 5 (.tmp 11) (.const (.int .u8 74)) v11 (.int .u8 74)) w fun v14 w =>
  J0 [v14] w)) fun s0 w => ∀ _ : Nat → Value,
  condK (s0.getD 0 undef)
  (drewK (fun w =>
  relX fun R2 =>
  postX R2 (fun p2_15 => allX R2 w fun V2 w => True → kV P (Instr.loadAt 42 v2) w (okX R2 w p2_15)) fun p2_15 =>
  postX R2 (fun p2_16 => allX R2 w fun V2 w => True → kV P (Instr.loadAt 42 v3) w (okX R2 w p2_16)) fun p2_16 =>
  postX R2 (fun p2_n2 => allX R2 w fun V2 w => p2_15 (V2 15) w ∧ True → kU P (Instr.storeAt 42 v2 (V2 15)) w (okX R2 w p2_n2)) fun p2_n2 =>
  allX R2 w fun V2 w => p2_15 (V2 15) w ∧ p2_16 (V2 16) w ∧ (∃ u, p2_n2 u w) ∧ True → xDist V2 [] →
  kU P (Instr.storeAt 42 v3 (V2 16)) w fun _ w =>
  retV P 42 v2 w fun r3 =>
  retV P 42 v3 w fun r4 =>
  K (.tuple #[r3, r4]) w) w)
  (kV P (binV .eql 5 (.tmp 11) (.const (.int .u8 78)) v11 (.int .u8 78)) w fun v18 w =>
  condK v18
  (kN P (callN (.func (.func 40) #[] #[v2, v3]) #[(.int .i64 7), (.int .i64 13), (.int .u64 0)]) w fun v20 w =>
  kV P (Instr.fieldAt 44 v1 4) w fun v22 w =>
  kV P (Instr.loadAt 42 v22) w fun v23 w =>
  kN P (callN (.func (.func 40) #[] #[v2, v3]) #[(.int .i64 20), (.int .i64 12), v23]) w fun v24 w =>
  drewK (fun w =>
  relX fun R5 =>
  postX R5 (fun p5_25 => allX R5 w fun V5 w => True → kV P (Instr.loadAt 42 v2) w (okX R5 w p5_25)) fun p5_25 =>
  postX R5 (fun p5_26 => allX R5 w fun V5 w => True → kV P (Instr.loadAt 42 v3) w (okX R5 w p5_26)) fun p5_26 =>
  postX R5 (fun p5_n2 => allX R5 w fun V5 w => p5_25 (V5 25) w ∧ True → kU P (Instr.storeAt 42 v2 (V5 25)) w (okX R5 w p5_n2)) fun p5_n2 =>
  allX R5 w fun V5 w => p5_25 (V5 25) w ∧ p5_26 (V5 26) w ∧ (∃ u, p5_n2 u w) ∧ True → xDist V5 [] →
  kU P (Instr.storeAt 42 v3 (V5 26)) w fun _ w =>
  retV P 42 v2 w fun r6 =>
  retV P 42 v3 w fun r7 =>
  K (.tuple #[r6, r7]) w) w)
  (kV P (Instr.fieldAt 44 v1 3) w fun v28 w =>
  kV P (Instr.loadAt 42 v28) w fun v29 w =>
  kN P (callN (.func (.func 40) #[] #[v2, v3]) #[(.int .i64 12), (.int .i64 3), v29]) w fun v30 w =>
  joinL (fun J8 =>
  kV P (Instr.fieldAt 44 v1 1) w fun v31 w =>
  kV P (Instr.loadAt 5 v31) w fun v32 w =>
  kV P (binV .eql 5 (.tmp 32) (.const (.int .u8 82)) v32 (.int .u8 82)) w fun v34 w =>
  condK v34
  (kV P (Instr.fieldAt 44 v1 4) w fun v36 w =>
  kV P (Instr.loadAt 42 v36) w fun v37 w =>
  kN P (callN (.func (.func 40) #[] #[v2, v3]) #[(.int .i64 25), (.int .i64 7), v37]) w fun v38 w =>
  J8 [] w)
  (kV P (binV .eql 5 (.tmp 32) (.const (.int .u8 71)) v32 (.int .u8 71)) w fun v40 w =>
  condK v40
  (kV P (Instr.fieldAt 44 v1 4) w fun v42 w =>
  kV P (Instr.loadAt 42 v42) w fun v43 w =>
  kN P (callN (.func (.func 40) #[] #[v2, v3]) #[(.int .i64 20), (.int .i64 5), v43]) w fun v44 w =>
  kN P (callN (.func (.func 40) #[] #[v2, v3]) #[(.int .i64 25), (.int .i64 7), (.int .u64 127)]) w fun v46 w =>
  J8 [] w)
  (kV P (binV .eql 5 (.tmp 32) (.const (.int .u8 72)) v32 (.int .u8 72)) w fun v48 w =>
  condK v48
  (kV P (Instr.fieldAt 44 v1 4) w fun v50 w =>
  kV P (Instr.loadAt 42 v50) w fun v51 w =>
  kN P (callN (.func (.func 40) #[] #[v2, v3]) #[(.int .i64 26), (.int .i64 6), v51]) w fun v52 w =>
  J8 [] w)
  (J8 [] w)))) fun s8 w => ∀ _ : Nat → Value,
  drewK (fun w =>
  relX fun R10 =>
  postX R10 (fun p10_53 => allX R10 w fun V10 w => True → kV P (Instr.loadAt 42 v2) w (okX R10 w p10_53)) fun p10_53 =>
  postX R10 (fun p10_54 => allX R10 w fun V10 w => True → kV P (Instr.loadAt 42 v3) w (okX R10 w p10_54)) fun p10_54 =>
  postX R10 (fun p10_n2 => allX R10 w fun V10 w => p10_53 (V10 53) w ∧ True → kU P (Instr.storeAt 42 v2 (V10 53)) w (okX R10 w p10_n2)) fun p10_n2 =>
  allX R10 w fun V10 w => p10_53 (V10 53) w ∧ p10_54 (V10 54) w ∧ (∃ u, p10_n2 u w) ∧ True → xDist V10 [] →
  kU P (Instr.storeAt 42 v3 (V10 54)) w fun _ w =>
  retV P 42 v2 w fun r11 =>
  retV P 42 v3 w fun r12 =>
  K (.tuple #[r11, r12]) w) w))
theorem F15_eq (P : Program) (t0 : Value) (w : World) (K : Value → World → Prop) : funE P ⟨[(20, 1003), (10, 1003), (6, 1003)], [], [(6, [12]), (20, [])]⟩ Tryd.f15 [t0] w K = F15 P t0 w K := by kernel_rfl
theorem F15_ok (t0 : Value) (w : World) (K : Value → World → Prop) (h : F15 Tryd.prog t0 w K) : callsK Tryd.prog 15 #[t0] w K := calls_of_eq mixedX Tryd.func15 (F15_eq _ t0 w K) h

/-- mintmark/inst.has -/
def F16 (P : Program) (t0 : Value) (w : World) (K : Value → World → Prop) : Prop :=
  kV P (binV .eql 5 (.tmp 5) (.const (.int .u8 82)) t0 (.int .u8 82)) w fun v7 w =>
  condK v7
  (K (.tuple #[(.bool true), (.bool true), (.bool true)]) w)
  (joinL (fun J0 =>
  kV P (binV .eql 5 (.tmp 5) (.const (.int .u8 71)) t0 (.int .u8 71)) w fun v9 w =>
  condK v9
  (J0 [v9] w)
  (kV P (binV .eql 5 (.tmp 5) (.const (.int .u8 73)) t0 (.int .u8 73)) w fun v10 w =>
  condK v10
  (J0 [v10] w)
  (kV P (binV .eql 5 (.tmp 5) (.const (.int .u8 67)) t0 (.int .u8 67)) w fun v11 w =>
  condK v11
  (J0 [v11] w)
  (kV P (binV .eql 5 (.tmp 5) (.const (.int .u8 72)) t0 (.int .u8 72)) w fun v12 w =>
  J0 [v12] w)))) fun s0 w => ∀ _ : Nat → Value,
  condK (s0.getD 0 undef)
  (K (.tuple #[(.bool true), (.bool true), (.bool false)]) w)
  (joinL (fun J2 =>
  kV P (binV .eql 5 (.tmp 5) (.const (.int .u8 83)) t0 (.int .u8 83)) w fun v14 w =>
  condK v14
  (J2 [v14] w)
  (kV P (binV .eql 5 (.tmp 5) (.const (.int .u8 66)) t0 (.int .u8 66)) w fun v15 w =>
  J2 [v15] w)) fun s2 w => ∀ _ : Nat → Value,
  condK (s2.getD 0 undef)
  (K (.tuple #[(.bool false), (.bool true), (.bool true)]) w)
  (joinL (fun J4 =>
  kV P (binV .eql 5 (.tmp 5) (.const (.int .u8 85)) t0 (.int .u8 85)) w fun v17 w =>
  condK v17
  (J4 [v17] w)
  (kV P (binV .eql 5 (.tmp 5) (.const (.int .u8 74)) t0 (.int .u8 74)) w fun v18 w =>
  J4 [v18] w)) fun s4 w => ∀ _ : Nat → Value,
  condK (s4.getD 0 undef)
  (K (.tuple #[(.bool true), (.bool false), (.bool false)]) w)
  (K (.tuple #[(.bool false), (.bool false), (.bool false)]) w))))
theorem F16_eq (P : Program) (t0 : Value) (w : World) (K : Value → World → Prop) : funE P ⟨[], [], [(8, [8]), (11, [13]), (14, [16])]⟩ Tryd.f16 [t0] w K = F16 P t0 w K := by kernel_rfl
theorem F16_ok (t0 : Value) (w : World) (K : Value → World → Prop) (h : F16 Tryd.prog t0 w K) : callsK Tryd.prog 16 #[t0] w K := calls_of_eq mixedX Tryd.func16 (F16_eq _ t0 w K) h

/-- (mintmark/inst.layout).lay -/
def F17 (P : Program) (t0 t1 t2 : Value) (w : World) (K : Value → World → Prop) : Prop :=
  kV P (Instr.box 49 t0) w fun v3 w =>
  kV P (Instr.fieldAt 49 v3 0) w fun v9 w =>
  kV P (Instr.loadAt 47 v9) w fun v10 w =>
  kV P (Builtin.len_ #[47] 3 #[v10]) w fun v11 w =>
  loopT (fun R0 s0 w => ∀ _ : Nat → Value,
  kV P (binV .lss 3 (.tmp 12) (.tmp 11) (s0.getD 1 undef) v11) w fun v13 w =>
  condK v13
  (joinL (fun J2 =>
  kV P (Instr.indexAt 47 v10 (s0.getD 1 undef)) w fun v14 w =>
  kV P (Instr.loadAt 92 v14) w fun v15 w =>
  kV P (Instr.alloc 92 true (.tuple #[])) w fun v8 w =>
  kU P (Instr.storeAt 92 v8 v15) w fun _ w =>
  drewK (fun w =>
  relX fun R4 =>
  postX R4 (fun p4_16 => allX R4 w fun V4 w => True → (okX R4 w p4_16) (s0.getD 0 undef) w) fun p4_16 =>
  postX R4 (fun p4_17 => allX R4 w fun V4 w => True → kV P (Instr.fieldAt 92 v8 2) w (okX R4 w p4_17)) fun p4_17 =>
  postX R4 (fun p4_18 => allX R4 w fun V4 w => p4_17 (V4 17) w ∧ True → kV P (Instr.loadAt 3 (V4 17)) w (okX R4 w p4_18)) fun p4_18 =>
  postX R4 (fun p4_19 => allX R4 w fun V4 w => True → kV P (Instr.fieldAt 92 v8 1) w (okX R4 w p4_19)) fun p4_19 =>
  postX R4 (fun p4_20 => allX R4 w fun V4 w => p4_19 (V4 19) w ∧ True → kV P (Instr.loadAt 3 (V4 19)) w (okX R4 w p4_20)) fun p4_20 =>
  postX R4 (fun p4_21 => allX R4 w fun V4 w => True → (okX R4 w p4_21) t2 w) fun p4_21 =>
  postX R4 (fun p4_22 => allX R4 w fun V4 w => p4_21 (V4 21) w ∧ True → kV P (convert 2 42 (V4 21)) w (okX R4 w p4_22)) fun p4_22 =>
  postX R4 (fun p4_23 => allX R4 w fun V4 w => True → kV P (Instr.fieldAt 92 v8 0) w (okX R4 w p4_23)) fun p4_23 =>
  postX R4 (fun p4_24 => allX R4 w fun V4 w => p4_23 (V4 23) w ∧ True → kV P (Instr.loadAt 3 (V4 23)) w (okX R4 w p4_24)) fun p4_24 =>
  postX R4 (fun p4_25 => allX R4 w fun V4 w => True → kV P (Instr.fieldAt 92 v8 1) w (okX R4 w p4_25)) fun p4_25 =>
  postX R4 (fun p4_26 => allX R4 w fun V4 w => p4_25 (V4 25) w ∧ True → kV P (Instr.loadAt 3 (V4 25)) w (okX R4 w p4_26)) fun p4_26 =>
  postX R4 (fun p4_27 => allX R4 w fun V4 w => p4_22 (V4 22) w ∧ p4_24 (V4 24) w ∧ p4_26 (V4 26) w ∧ True → kN P (callN (.func (.func 38) #[] #[]) #[(V4 22), (V4 24), (V4 26)]) w (okX R4 w p4_27)) fun p4_27 =>
  allX R4 w fun V4 w => p4_16 (V4 16) w ∧ p4_17 (V4 17) w ∧ p4_18 (V4 18) w ∧ p4_19 (V4 19) w ∧ p4_20 (V4 20) w ∧ p4_21 (V4 21) w ∧ p4_22 (V4 22) w ∧ p4_23 (V4 23) w ∧ p4_24 (V4 24) w ∧ p4_25 (V4 25) w ∧ p4_26 (V4 26) w ∧ p4_27 (V4 27) w ∧ True → xDist V4 [] →
  kN P (callN (.func (.func 19) #[] #[]) #[(V4 16), (V4 18), (V4 20), (V4 27)]) w fun v28 w =>
  J2 [v28] w) w) fun s2 w => ∀ _ : Nat → Value,
  kV P (binV .add 3 (.tmp 12) (.const (.int .i64 1)) (s0.getD 1 undef) (.int .i64 1)) w fun v29 w =>
  R0 [(s2.getD 0 undef), v29] w)
  (K (s0.getD 0 undef) w)) [t1, (.int .i64 0)] w
theorem F17_eq (P : Program) (t0 t1 t2 : Value) (w : World) (K : Value → World → Prop) : funE P ⟨[(4, 1012)], [(2, [1, 12])], [(5, [1])]⟩ Tryd.f17 [t0, t1, t2] w K = F17 P t0 t1 t2 w K := by kernel_rfl
theorem F17_ok (t0 t1 t2 : Value) (w : World) (K : Value → World → Prop) (h : F17 Tryd.prog t0 t1 t2 w K) : callsK Tryd.prog 17 #[t0, t1, t2] w K := calls_of_eq mixedX Tryd.func17 (F17_eq _ t0 t1 t2 w K) h

/-- mintmark/asm.order -/
def F22 (P : Program) (t0 : Value) (w : World) (K : Value → World → Prop) : Prop :=
  kV P (binV .eql 5 (.tmp 3) (.const (.int .u8 82)) t0 (.int .u8 82)) w fun v5 w =>
  condK v5
  (K (.string ⟨#[100, 97, 98]⟩) w)
  (kV P (binV .eql 5 (.tmp 3) (.const (.int .u8 71)) t0 (.int .u8 71)) w fun v7 w =>
  condK v7
  (K (.string ⟨#[100, 97]⟩) w)
  (joinL (fun J0 =>
  kV P (binV .eql 5 (.tmp 3) (.const (.int .u8 73)) t0 (.int .u8 73)) w fun v9 w =>
  condK v9
  (J0 [v9] w)
  (kV P (binV .eql 5 (.tmp 3) (.const (.int .u8 67)) t0 (.int .u8 67)) w fun v10 w =>
  condK v10
  (J0 [v10] w)
  (kV P (binV .eql 5 (.tmp 3) (.const (.int .u8 72)) t0 (.int .u8 72)) w fun v11 w =>
  J0 [v11] w))) fun s0 w => ∀ _ : Nat → Value,
  condK (s0.getD 0 undef)
  (K (.string ⟨#[100, 97, 109]⟩) w)
  (kV P (binV .eql 5 (.tmp 3) (.const (.int .u8 83)) t0 (.int .u8 83)) w fun v13 w =>
  condK v13
  (K (.string ⟨#[98, 97, 109]⟩) w)
  (kV P (binV .eql 5 (.tmp 3) (.const (.int .u8 66)) t0 (.int .u8 66)) w fun v15 w =>
  condK v15
  (K (.string ⟨#[97, 98, 109]⟩) w)
  (joinL (fun J2 =>
  kV P (binV .eql 5 (.tmp 3) (.const (.int .u8 85)) t0 (.int .u8 85)) w fun v17 w =>
  condK v17
  (J2 [v17] w)
  (kV P (binV .eql 5 (.tmp 3) (.const (.int .u8 74)) t0 (.int .u8 74)) w fun v18 w =>
  J2 [v18] w)) fun s2 w => ∀ _ : Nat → Value,
  condK (s2.getD 0 undef)
  (K (.string ⟨#[100, 109]⟩) w)
  (K (.string ⟨#[]⟩) w))))))
theorem F22_eq (P : Program) (t0 : Value) (w : World) (K : Value → World → Prop) : funE P ⟨[], [], [(9, [8]), (16, [16])]⟩ Tryd.f22 [t0] w K = F22 P t0 w K := by kernel_rfl
theorem F22_ok (t0 : Value) (w : World) (K : Value → World → Prop) (h : F22 Tryd.prog t0 w K) : callsK Tryd.prog 22 #[t0] w K := calls_of_eq mixedX Tryd.func22 (F22_eq _ t0 w K) h

/-- mintmark/inst.Shape -/
def F23 (P : Program) (t0 : Value) (w : World) (K : Value → World → Prop) : Prop :=
  kN P (callN (.func (.func 12) #[] #[]) #[t0]) w fun v7 w =>
  kV P (Instr.extract v7 0) w fun v8 w =>
  kV P (Instr.extract v7 1) w fun v9 w =>
  kV P (Instr.alloc 44 true (.tuple #[])) w fun v3 w =>
  kU P (Instr.storeAt 44 v3 v8) w fun _ w =>
  kV P (Instr.fieldAt 44 v3 1) w fun v10 w =>
  kV P (Instr.loadAt 5 v10) w fun v11 w =>
  K v11 w
theorem F23_eq (P : Program) (t0 : Value) (w : World) (K : Value → World → Prop) : funE P ⟨[], [], []⟩ Tryd.f23 [t0] w K = F23 P t0 w K := by kernel_rfl
theorem F23_ok (t0 : Value) (w : World) (K : Value → World → Prop) (h : F23 Tryd.prog t0 w K) : callsK Tryd.prog 23 #[t0] w K := calls_of_eq mixedX Tryd.func23 (F23_eq _ t0 w K) h

/-- mintmark/inst.Name -/
def F24 (P : Program) (t0 : Value) (w : World) (K : Value → World → Prop) : Prop :=
  kN P (callN (.func (.func 12) #[] #[]) #[t0]) w fun v7 w =>
  kV P (Instr.extract v7 0) w fun v8 w =>
  kV P (Instr.extract v7 1) w fun v9 w =>
  kV P (Instr.alloc 44 true (.tuple #[])) w fun v3 w =>
  kU P (Instr.storeAt 44 v3 v8) w fun _ w =>
  kV P (Instr.fieldAt 44 v3 0) w fun v10 w =>
  kV P (Instr.loadAt 9 v10) w fun v11 w =>
  K v11 w
theorem F24_eq (P : Program) (t0 : Value) (w : World) (K : Value → World → Prop) : funE P ⟨[], [], []⟩ Tryd.f24 [t0] w K = F24 P t0 w K := by kernel_rfl
theorem F24_ok (t0 : Value) (w : World) (K : Value → World → Prop) (h : F24 Tryd.prog t0 w K) : callsK Tryd.prog 24 #[t0] w K := calls_of_eq mixedX Tryd.func24 (F24_eq _ t0 w K) h

/-- mintmark/inst.Find -/
def F27 (P : Program) (t0 : Value) (w : World) (K : Value → World → Prop) : Prop :=
  kN P (callN (.func (.func 36) #[] #[]) #[]) w fun v5 w =>
  loopT (fun R0 s0 w => ∀ _ : Nat → Value,
  kV P (binV .lss 3 (.tmp 6) (.const (.int .i64 69)) (s0.getD 0 undef) (.int .i64 69)) w fun v7 w =>
  condK v7
  (kV P (Instr.index 87 v5 (s0.getD 0 undef)) w fun v9 w =>
  kV P (Instr.alloc 44 true (.tuple #[])) w fun v4 w =>
  kU P (Instr.storeAt 44 v4 v9) w fun _ w =>
  kV P (Instr.fieldAt 44 v4 0) w fun v10 w =>
  kV P (Instr.loadAt 9 v10) w fun v11 w =>
  kV P (binV .eql 9 (.tmp 11) (.tmp 12) v11 t0) w fun v13 w =>
  condK v13
  (kV P (binV .add 3 (.tmp 14) (.const (.int .i64 1)) (s0.getD 0 undef) (.int .i64 1)) w fun v15 w =>
  K v15 w)
  (kV P (binV .add 3 (.tmp 6) (.const (.int .i64 1)) (s0.getD 0 undef) (.int .i64 1)) w fun v16 w =>
  R0 [v16] w))
  (K (.int .i64 0) w)) [(.int .i64 0)] w
theorem F27_eq (P : Program) (t0 : Value) (w : World) (K : Value → World → Prop) : funE P ⟨[], [(2, [6])], []⟩ Tryd.f27 [t0] w K = F27 P t0 w K := by kernel_rfl
theorem F27_ok (t0 : Value) (w : World) (K : Value → World → Prop) (h : F27 Tryd.prog t0 w K) : callsK Tryd.prog 27 #[t0] w K := calls_of_eq mixedX Tryd.func27 (F27_eq _ t0 w K) h

/-- mintmark/inst.rows -/
def F36 (P : Program) (w : World) (K : Value → World → Prop) : Prop :=
  kV P (Instr.alloc 87 true (.tuple #[])) w fun v0 w =>
  kV P (Instr.build 44 #[(0, (.string ⟨#[108, 117, 105]⟩)), (1, (.int .u8 85)), (2, (.int .u64 55)), (3, (.int .u64 0)), (4, (.int .u64 0))]) w fun v1 w =>
  kV P (Instr.build 44 #[(0, (.string ⟨#[97, 117, 105, 112, 99]⟩)), (1, (.int .u8 85)), (2, (.int .u64 23)), (3, (.int .u64 0)), (4, (.int .u64 0))]) w fun v2 w =>
  kV P (Instr.build 44 #[(0, (.string ⟨#[106, 97, 108]⟩)), (1, (.int .u8 74)), (2, (.int .u64 111)), (3, (.int .u64 0)), (4, (.int .u64 0))]) w fun v3 w =>
  kV P (Instr.build 44 #[(0, (.string ⟨#[106, 97, 108, 114]⟩)), (1, (.int .u8 73)), (2, (.int .u64 103)), (3, (.int .u64 0)), (4, (.int .u64 0))]) w fun v4 w =>
  kV P (Instr.build 44 #[(0, (.string ⟨#[98, 101, 113]⟩)), (1, (.int .u8 66)), (2, (.int .u64 99)), (3, (.int .u64 0)), (4, (.int .u64 0))]) w fun v5 w =>
  kV P (Instr.build 44 #[(0, (.string ⟨#[98, 110, 101]⟩)), (1, (.int .u8 66)), (2, (.int .u64 99)), (3, (.int .u64 1)), (4, (.int .u64 0))]) w fun v6 w =>
  kV P (Instr.build 44 #[(0, (.string ⟨#[98, 108, 116]⟩)), (1, (.int .u8 66)), (2, (.int .u64 99)), (3, (.int .u64 4)), (4, (.int .u64 0))]) w fun v7 w =>
  kV P (Instr.build 44 #[(0, (.string ⟨#[98, 103, 101]⟩)), (1, (.int .u8 66)), (2, (.int .u64 99)), (3, (.int .u64 5)), (4, (.int .u64 0))]) w fun v8 w =>
  kV P (Instr.build 44 #[(0, (.string ⟨#[98, 108, 116, 117]⟩)), (1, (.int .u8 66)), (2, (.int .u64 99)), (3, (.int .u64 6)), (4, (.int .u64 0))]) w fun v9 w =>
  kV P (Instr.build 44 #[(0, (.string ⟨#[98, 103, 101, 117]⟩)), (1, (.int .u8 66)), (2, (.int .u64 99)), (3, (.int .u64 7)), (4, (.int .u64 0))]) w fun v10 w =>
  kV P (Instr.build 44 #[(0, (.string ⟨#[108, 98]⟩)), (1, (.int .u8 73)), (2, (.int .u64 3)), (3, (.int .u64 0)), (4, (.int .u64 0))]) w fun v11 w =>
  kV P (Instr.build 44 #[(0, (.string ⟨#[108, 104]⟩)), (1, (.int .u8 73)), (2, (.int .u64 3)), (3, (.int .u64 1)), (4, (.int .u64 0))]) w fun v12 w =>
  kV P (Instr.build 44 #[(0, (.string ⟨#[108, 119]⟩)), (1, (.int .u8 73)), (2, (.int .u64 3)), (3, (.int .u64 2)), (4, (.int .u64 0))]) w fun v13 w =>
  kV P (Instr.build 44 #[(0, (.string ⟨#[108, 100]⟩)), (1, (.int .u8 73)), (2, (.int .u64 3)), (3, (.int .u64 3)), (4, (.int .u64 0))]) w fun v14 w =>
  kV P (Instr.build 44 #[(0, (.string ⟨#[108, 98, 117]⟩)), (1, (.int .u8 73)), (2, (.int .u64 3)), (3, (.int .u64 4)), (4, (.int .u64 0))]) w fun v15 w =>
  kV P (Instr.build 44 #[(0, (.string ⟨#[108, 104, 117]⟩)), (1, (.int .u8 73)), (2, (.int .u64 3)), (3, (.int .u64 5)), (4, (.int .u64 0))]) w fun v16 w =>
  kV P (Instr.build 44 #[(0, (.string ⟨#[108, 119, 117]⟩)), (1, (.int .u8 73)), (2, (.int .u64 3)), (3, (.int .u64 6)), (4, (.int .u64 0))]) w fun v17 w =>
  kV P (Instr.build 44 #[(0, (.string ⟨#[115, 98]⟩)), (1, (.int .u8 83)), (2, (.int .u64 35)), (3, (.int .u64 0)), (4, (.int .u64 0))]) w fun v18 w =>
  kV P (Instr.build 44 #[(0, (.string ⟨#[115, 104]⟩)), (1, (.int .u8 83)), (2, (.int .u64 35)), (3, (.int .u64 1)), (4, (.int .u64 0))]) w fun v19 w =>
  kV P (Instr.build 44 #[(0, (.string ⟨#[115, 119]⟩)), (1, (.int .u8 83)), (2, (.int .u64 35)), (3, (.int .u64 2)), (4, (.int .u64 0))]) w fun v20 w =>
  kV P (Instr.build 44 #[(0, (.string ⟨#[115, 100]⟩)), (1, (.int .u8 83)), (2, (.int .u64 35)), (3, (.int .u64 3)), (4, (.int .u64 0))]) w fun v21 w =>
  kV P (Instr.build 44 #[(0, (.string ⟨#[97, 100, 100, 105]⟩)), (1, (.int .u8 73)), (2, (.int .u64 19)), (3, (.int .u64 0)), (4, (.int .u64 0))]) w fun v22 w =>
  kV P (Instr.build 44 #[(0, (.string ⟨#[115, 108, 116, 105]⟩)), (1, (.int .u8 73)), (2, (.int .u64 19)), (3, (.int .u64 2)), (4, (.int .u64 0))]) w fun v23 w =>
  kV P (Instr.build 44 #[(0, (.string ⟨#[115, 108, 116, 105, 117]⟩)), (1, (.int .u8 73)), (2, (.int .u64 19)), (3, (.int .u64 3)), (4, (.int .u64 0))]) w fun v24 w =>
  kV P (Instr.build 44 #[(0, (.string ⟨#[120, 111, 114, 105]⟩)), (1, (.int .u8 73)), (2, (.int .u64 19)), (3, (.int .u64 4)), (4, (.int .u64 0))]) w fun v25 w =>
  kV P (Instr.build 44 #[(0, (.string ⟨#[111, 114, 105]⟩)), (1, (.int .u8 73)), (2, (.int .u64 19)), (3, (.int .u64 6)), (4, (.int .u64 0))]) w fun v26 w =>
  kV P (Instr.build 44 #[(0, (.string ⟨#[97, 110, 100, 105]⟩)), (1, (.int .u8 73)), (2, (.int .u64 19)), (3, (.int .u64 7)), (4, (.int .u64 0))]) w fun v27 w =>
  kV P (Instr.build 44 #[(0, (.string ⟨#[115, 108, 108, 105]⟩)), (1, (.int .u8 72)), (2, (.int .u64 19)), (3, (.int .u64 1)), (4, (.int .u64 0))]) w fun v28 w =>
  kV P (Instr.build 44 #[(0, (.string ⟨#[115, 114, 108, 105]⟩)), (1, (.int .u8 72)), (2, (.int .u64 19)), (3, (.int .u64 5)), (4, (.int .u64 0))]) w fun v29 w =>
  kV P (Instr.build 44 #[(0, (.string ⟨#[115, 114, 97, 105]⟩)), (1, (.int .u8 72)), (2, (.int .u64 19)), (3, (.int .u64 5)), (4, (.int .u64 16))]) w fun v30 w =>
  kV P (Instr.build 44 #[(0, (.string ⟨#[97, 100, 100]⟩)), (1, (.int .u8 82)), (2, (.int .u64 51)), (3, (.int .u64 0)), (4, (.int .u64 0))]) w fun v31 w =>
  kV P (Instr.build 44 #[(0, (.string ⟨#[115, 117, 98]⟩)), (1, (.int .u8 82)), (2, (.int .u64 51)), (3, (.int .u64 0)), (4, (.int .u64 32))]) w fun v32 w =>
  kV P (Instr.build 44 #[(0, (.string ⟨#[115, 108, 108]⟩)), (1, (.int .u8 82)), (2, (.int .u64 51)), (3, (.int .u64 1)), (4, (.int .u64 0))]) w fun v33 w =>
  kV P (Instr.build 44 #[(0, (.string ⟨#[115, 108, 116]⟩)), (1, (.int .u8 82)), (2, (.int .u64 51)), (3, (.int .u64 2)), (4, (.int .u64 0))]) w fun v34 w =>
  kV P (Instr.build 44 #[(0, (.string ⟨#[115, 108, 116, 117]⟩)), (1, (.int .u8 82)), (2, (.int .u64 51)), (3, (.int .u64 3)), (4, (.int .u64 0))]) w fun v35 w =>
  kV P (Instr.build 44 #[(0, (.string ⟨#[120, 111, 114]⟩)), (1, (.int .u8 82)), (2, (.int .u64 51)), (3, (.int .u64 4)), (4, (.int .u64 0))]) w fun v36 w =>
  kV P (Instr.build 44 #[(0, (.string ⟨#[115, 114, 108]⟩)), (1, (.int .u8 82)), (2, (.int .u64 51)), (3, (.int .u64 5)), (4, (.int .u64 0))]) w fun v37 w =>
  kV P (Instr.build 44 #[(0, (.string ⟨#[115, 114, 97]⟩)), (1, (.int .u8 82)), (2, (.int .u64 51)), (3, (.int .u64 5)), (4, (.int .u64 32))]) w fun v38 w =>
  kV P (Instr.build 44 #[(0, (.string ⟨#[111, 114]⟩)), (1, (.int .u8 82)), (2, (.int .u64 51)), (3, (.int .u64 6)), (4, (.int .u64 0))]) w fun v39 w =>
  kV P (Instr.build 44 #[(0, (.string ⟨#[97, 110, 100]⟩)), (1, (.int .u8 82)), (2, (.int .u64 51)), (3, (.int .u64 7)), (4, (.int .u64 0))]) w fun v40 w =>
  kV P (Instr.build 44 #[(0, (.string ⟨#[101, 99, 97, 108, 108]⟩)), (1, (.int .u8 78)), (2, (.int .u64 115)), (3, (.int .u64 0)), (4, (.int .u64 0))]) w fun v41 w =>
  kV P (Instr.build 44 #[(0, (.string ⟨#[101, 98, 114, 101, 97, 107]⟩)), (1, (.int .u8 78)), (2, (.int .u64 115)), (3, (.int .u64 0)), (4, (.int .u64 1))]) w fun v42 w =>
  kV P (Instr.build 44 #[(0, (.string ⟨#[99, 108, 99]⟩)), (1, (.int .u8 73)), (2, (.int .u64 15)), (3, (.int .u64 2)), (4, (.int .u64 0))]) w fun v43 w =>
  kV P (Instr.build 44 #[(0, (.string ⟨#[99, 115, 99]⟩)), (1, (.int .u8 83)), (2, (.int .u64 35)), (3, (.int .u64 4)), (4, (.int .u64 0))]) w fun v44 w =>
  kV P (Instr.build 44 #[(0, (.string ⟨#[99, 115, 101, 116, 98, 111, 117, 110, 100, 115]⟩)), (1, (.int .u8 82)), (2, (.int .u64 91)), (3, (.int .u64 0)), (4, (.int .u64 8))]) w fun v45 w =>
  kV P (Instr.build 44 #[(0, (.string ⟨#[99, 115, 101, 116, 98, 111, 117, 110, 100, 115, 101, 120, 97, 99, 116]⟩)), (1, (.int .u8 82)), (2, (.int .u64 91)), (3, (.int .u64 0)), (4, (.int .u64 9))]) w fun v46 w =>
  kV P (Instr.build 44 #[(0, (.string ⟨#[99, 115, 101, 97, 108]⟩)), (1, (.int .u8 82)), (2, (.int .u64 91)), (3, (.int .u64 0)), (4, (.int .u64 11))]) w fun v47 w =>
  kV P (Instr.build 44 #[(0, (.string ⟨#[99, 117, 110, 115, 101, 97, 108]⟩)), (1, (.int .u8 82)), (2, (.int .u64 91)), (3, (.int .u64 0)), (4, (.int .u64 12))]) w fun v48 w =>
  kV P (Instr.build 44 #[(0, (.string ⟨#[99, 97, 110, 100, 112, 101, 114, 109]⟩)), (1, (.int .u8 82)), (2, (.int .u64 91)), (3, (.int .u64 0)), (4, (.int .u64 13))]) w fun v49 w =>
  kV P (Instr.build 44 #[(0, (.string ⟨#[99, 115, 101, 116, 97, 100, 100, 114]⟩)), (1, (.int .u8 82)), (2, (.int .u64 91)), (3, (.int .u64 0)), (4, (.int .u64 16))]) w fun v50 w =>
  kV P (Instr.build 44 #[(0, (.string ⟨#[99, 105, 110, 99, 111, 102, 102, 115, 101, 116]⟩)), (1, (.int .u8 82)), (2, (.int .u64 91)), (3, (.int .u64 0)), (4, (.int .u64 17))]) w fun v51 w =>
  kV P (Instr.build 44 #[(0, (.string ⟨#[99, 115, 117, 98]⟩)), (1, (.int .u8 82)), (2, (.int .u64 91)), (3, (.int .u64 0)), (4, (.int .u64 20))]) w fun v52 w =>
  kV P (Instr.build 44 #[(0, (.string ⟨#[99, 98, 117, 105, 108, 100, 99, 97, 112]⟩)), (1, (.int .u8 82)), (2, (.int .u64 91)), (3, (.int .u64 0)), (4, (.int .u64 29))]) w fun v53 w =>
  kV P (Instr.build 44 #[(0, (.string ⟨#[99, 116, 101, 115, 116, 115, 117, 98, 115, 101, 116]⟩)), (1, (.int .u8 82)), (2, (.int .u64 91)), (3, (.int .u64 0)), (4, (.int .u64 32))]) w fun v54 w =>
  kV P (Instr.build 44 #[(0, (.string ⟨#[99, 115, 101, 116, 101, 113, 117, 97, 108]⟩)), (1, (.int .u8 82)), (2, (.int .u64 91)), (3, (.int .u64 0)), (4, (.int .u64 33))]) w fun v55 w =>
  kV P (Instr.build 44 #[(0, (.string ⟨#[99, 103, 101, 116, 112, 101, 114, 109]⟩)), (1, (.int .u8 71)), (2, (.int .u64 91)), (3, (.int .u64 0)), (4, (.int .u64 0))]) w fun v56 w =>
  kV P (Instr.build 44 #[(0, (.string ⟨#[99, 103, 101, 116, 116, 121, 112, 101]⟩)), (1, (.int .u8 71)), (2, (.int .u64 91)), (3, (.int .u64 0)), (4, (.int .u64 1))]) w fun v57 w =>
  kV P (Instr.build 44 #[(0, (.string ⟨#[99, 103, 101, 116, 98, 97, 115, 101]⟩)), (1, (.int .u8 71)), (2, (.int .u64 91)), (3, (.int .u64 0)), (4, (.int .u64 2))]) w fun v58 w =>
  kV P (Instr.build 44 #[(0, (.string ⟨#[99, 103, 101, 116, 108, 101, 110]⟩)), (1, (.int .u8 71)), (2, (.int .u64 91)), (3, (.int .u64 0)), (4, (.int .u64 3))]) w fun v59 w =>
  kV P (Instr.build 44 #[(0, (.string ⟨#[99, 103, 101, 116, 116, 97, 103]⟩)), (1, (.int .u8 71)), (2, (.int .u64 91)), (3, (.int .u64 0)), (4, (.int .u64 4))]) w fun v60 w =>
  kV P (Instr.build 44 #[(0, (.string ⟨#[99, 103, 101, 116, 111, 102, 102, 115, 101, 116]⟩)), (1, (.int .u8 71)), (2, (.int .u64 91)), (3, (.int .u64 0)), (4, (.int .u64 6))]) w fun v61 w =>
  kV P (Instr.build 44 #[(0, (.string ⟨#[99, 114, 114, 108]⟩)), (1, (.int .u8 71)), (2, (.int .u64 91)), (3, (.int .u64 0)), (4, (.int .u64 8))]) w fun v62 w =>
  kV P (Instr.build 44 #[(0, (.string ⟨#[99, 114, 97, 109]⟩)), (1, (.int .u8 71)), (2, (.int .u64 91)), (3, (.int .u64 0)), (4, (.int .u64 9))]) w fun v63 w =>
  kV P (Instr.build 44 #[(0, (.string ⟨#[99, 109, 111, 118, 101]⟩)), (1, (.int .u8 71)), (2, (.int .u64 91)), (3, (.int .u64 0)), (4, (.int .u64 10))]) w fun v64 w =>
  kV P (Instr.build 44 #[(0, (.string ⟨#[99, 99, 108, 101, 97, 114, 116, 97, 103]⟩)), (1, (.int .u8 71)), (2, (.int .u64 91)), (3, (.int .u64 0)), (4, (.int .u64 11))]) w fun v65 w =>
  kV P (Instr.build 44 #[(0, (.string ⟨#[99, 103, 101, 116, 97, 100, 100, 114]⟩)), (1, (.int .u8 71)), (2, (.int .u64 91)), (3, (.int .u64 0)), (4, (.int .u64 15))]) w fun v66 w =>
  kV P (Instr.build 44 #[(0, (.string ⟨#[99, 115, 101, 97, 108, 101, 110, 116, 114, 121]⟩)), (1, (.int .u8 71)), (2, (.int .u64 91)), (3, (.int .u64 0)), (4, (.int .u64 17))]) w fun v67 w =>
  kV P (Instr.build 44 #[(0, (.string ⟨#[99, 105, 110, 99, 111, 102, 102, 115, 101, 116, 105, 109, 109]⟩)), (1, (.int .u8 73)), (2, (.int .u64 91)), (3, (.int .u64 1)), (4, (.int .u64 0))]) w fun v68 w =>
  kV P (Instr.build 44 #[(0, (.string ⟨#[99, 115, 101, 116, 98, 111, 117, 110, 100, 115, 105, 109, 109]⟩)), (1, (.int .u8 67)), (2, (.int .u64 91)), (3, (.int .u64 2)), (4, (.int .u64 0))]) w fun v69 w =>
  kV P (Instr.build 87 #[(0, v1), (1, v2), (2, v3), (3, v4), (4, v5), (5, v6), (6, v7), (7, v8), (8, v9), (9, v10), (10, v11), (11, v12), (12, v13), (13, v14), (14, v15), (15, v16), (16, v17), (17, v18), (18, v19), (19, v20), (20, v21), (21, v22), (22, v23), (23, v24), (24, v25), (25, v26), (26, v27), (27, v28), (28, v29), (29, v30), (30, v31), (31, v32), (32, v33), (33, v34), (34, v35), (35, v36), (36, v37), (37, v38), (38, v39), (39, v40), (40, v41), (41, v42), (42, v43), (43, v44), (44, v45), (45, v46), (46, v47), (47, v48), (48, v49), (49, v50), (50, v51), (51, v52), (52, v53), (53, v54), (54, v55), (55, v56), (56, v57), (57, v58), (58, v59), (59, v60), (60, v61), (61, v62), (62, v63), (63, v64), (64, v65), (65, v66), (66, v67), (67, v68), (68, v69)]) w fun v70 w =>
  kU P (Instr.storeAt 87 v0 v70) w fun _ w =>
  retV P 87 v0 w fun r0 =>
  K r0 w
theorem F36_eq (P : Program) (w : World) (K : Value → World → Prop) : funE P ⟨[], [], []⟩ Tryd.f36 [] w K = F36 P  w K := by kernel_rfl
theorem F36_ok (w : World) (K : Value → World → Prop) (h : F36 Tryd.prog  w K) : callsK Tryd.prog 36 #[] w K := calls_of_eq mixedX Tryd.func36 (F36_eq _  w K) h

/-- (mintmark/inst.layout).read -/
def F37 (P : Program) (t0 t1 : Value) (w : World) (K : Value → World → Prop) : Prop :=
  kV P (Instr.box 49 t0) w fun v2 w =>
  kV P (Instr.fieldAt 49 v2 0) w fun v8 w =>
  kV P (Instr.loadAt 47 v8) w fun v9 w =>
  kV P (Builtin.len_ #[47] 3 #[v9]) w fun v10 w =>
  loopT (fun R0 s0 w => ∀ _ : Nat → Value,
  kV P (binV .lss 3 (.tmp 11) (.tmp 10) (s0.getD 1 undef) v10) w fun v12 w =>
  condK v12
  (joinL (fun J2 =>
  kV P (Instr.indexAt 47 v9 (s0.getD 1 undef)) w fun v13 w =>
  kV P (Instr.loadAt 92 v13) w fun v14 w =>
  kV P (Instr.alloc 92 true (.tuple #[])) w fun v7 w =>
  kU P (Instr.storeAt 92 v7 v14) w fun _ w =>
  drewK (fun w =>
  relX fun R4 =>
  postX R4 (fun p4_15 => allX R4 w fun V4 w => True → (okX R4 w p4_15) (s0.getD 0 undef) w) fun p4_15 =>
  postX R4 (fun p4_16 => allX R4 w fun V4 w => True → kV P (Instr.fieldAt 92 v7 0) w (okX R4 w p4_16)) fun p4_16 =>
  postX R4 (fun p4_17 => allX R4 w fun V4 w => p4_16 (V4 16) w ∧ True → kV P (Instr.loadAt 3 (V4 16)) w (okX R4 w p4_17)) fun p4_17 =>
  postX R4 (fun p4_18 => allX R4 w fun V4 w => True → kV P (Instr.fieldAt 92 v7 1) w (okX R4 w p4_18)) fun p4_18 =>
  postX R4 (fun p4_19 => allX R4 w fun V4 w => p4_18 (V4 18) w ∧ True → kV P (Instr.loadAt 3 (V4 18)) w (okX R4 w p4_19)) fun p4_19 =>
  postX R4 (fun p4_20 => allX R4 w fun V4 w => True → (okX R4 w p4_20) t1 w) fun p4_20 =>
  postX R4 (fun p4_21 => allX R4 w fun V4 w => True → kV P (Instr.fieldAt 92 v7 2) w (okX R4 w p4_21)) fun p4_21 =>
  postX R4 (fun p4_22 => allX R4 w fun V4 w => p4_21 (V4 21) w ∧ True → kV P (Instr.loadAt 3 (V4 21)) w (okX R4 w p4_22)) fun p4_22 =>
  postX R4 (fun p4_23 => allX R4 w fun V4 w => True → kV P (Instr.fieldAt 92 v7 1) w (okX R4 w p4_23)) fun p4_23 =>
  postX R4 (fun p4_24 => allX R4 w fun V4 w => p4_23 (V4 23) w ∧ True → kV P (Instr.loadAt 3 (V4 23)) w (okX R4 w p4_24)) fun p4_24 =>
  postX R4 (fun p4_25 => allX R4 w fun V4 w => p4_20 (V4 20) w ∧ p4_22 (V4 22) w ∧ p4_24 (V4 24) w ∧ True → kN P (callN (.func (.func 38) #[] #[]) #[(V4 20), (V4 22), (V4 24)]) w (okX R4 w p4_25)) fun p4_25 =>
  allX R4 w fun V4 w => p4_15 (V4 15) w ∧ p4_16 (V4 16) w ∧ p4_17 (V4 17) w ∧ p4_18 (V4 18) w ∧ p4_19 (V4 19) w ∧ p4_20 (V4 20) w ∧ p4_21 (V4 21) w ∧ p4_22 (V4 22) w ∧ p4_23 (V4 23) w ∧ p4_24 (V4 24) w ∧ p4_25 (V4 25) w ∧ True → xDist V4 [] →
  kN P (callN (.func (.func 19) #[] #[]) #[(V4 15), (V4 17), (V4 19), (V4 25)]) w fun v26 w =>
  J2 [v26] w) w) fun s2 w => ∀ _ : Nat → Value,
  kV P (binV .add 3 (.tmp 11) (.const (.int .i64 1)) (s0.getD 1 undef) (.int .i64 1)) w fun v27 w =>
  R0 [(s2.getD 0 undef), v27] w)
  (joinL (fun J5 =>
  kV P (Instr.fieldAt 49 v2 2) w fun v28 w =>
  kV P (Instr.loadAt 4 v28) w fun v29 w =>
  condK v29
  (kV P (Instr.fieldAt 49 v2 1) w fun v31 w =>
  kV P (Instr.loadAt 3 v31) w fun v32 w =>
  kN P (callN (.func (.func 41) #[] #[]) #[(s0.getD 0 undef), v32]) w fun v33 w =>
  J5 [v33] w)
  (J5 [(s0.getD 0 undef)] w)) fun s5 w => ∀ _ : Nat → Value,
  kV P (convert 42 2 (s5.getD 0 undef)) w fun v35 w =>
  K v35 w)) [(.int .u64 0), (.int .i64 0)] w
theorem F37_eq (P : Program) (t0 t1 : Value) (w : World) (K : Value → World → Prop) : funE P ⟨[(5, 1011)], [(3, [5, 11])], [(9, [5]), (6, [5])]⟩ Tryd.f37 [t0, t1] w K = F37 P t0 t1 w K := by kernel_rfl
theorem F37_ok (t0 t1 : Value) (w : World) (K : Value → World → Prop) (h : F37 Tryd.prog t0 t1 w K) : callsK Tryd.prog 37 #[t0, t1] w K := calls_of_eq mixedX Tryd.func37 (F37_eq _ t0 t1 w K) h

/-- (mintmark/inst.row).fixed$1 -/
def F40 (P : Program) (t0 t1 t2 t3 t4 : Value) (w : World) (K : Value → World → Prop) : Prop :=
  drewK (fun w =>
  relX fun R0 =>
  postX R0 (fun p0_8 => allX R0 w fun V0 w => True → kV P (Instr.loadAt 42 t3) w (okX R0 w p0_8)) fun p0_8 =>
  postX R0 (fun p0_9 => allX R0 w fun V0 w => True → (okX R0 w p0_9) t0 w) fun p0_9 =>
  postX R0 (fun p0_10 => allX R0 w fun V0 w => True → (okX R0 w p0_10) t1 w) fun p0_10 =>
  postX R0 (fun p0_11 => allX R0 w fun V0 w => True → (okX R0 w p0_11) t2 w) fun p0_11 =>
  postX R0 (fun p0_12 => allX R0 w fun V0 w => p0_8 (V0 8) w ∧ p0_9 (V0 9) w ∧ p0_10 (V0 10) w ∧ p0_11 (V0 11) w ∧ True → kN P (callN (.func (.func 19) #[] #[]) #[(V0 8), (V0 9), (V0 10), (V0 11)]) w (okX R0 w p0_12)) fun p0_12 =>
  postX R0 (fun p0_13 => allX R0 w fun V0 w => True → kV P (Instr.loadAt 42 t4) w (okX R0 w p0_13)) fun p0_13 =>
  postX R0 (fun p0_14 => allX R0 w fun V0 w => True → (okX R0 w p0_14) t0 w) fun p0_14 =>
  postX R0 (fun p0_15 => allX R0 w fun V0 w => True → (okX R0 w p0_15) t1 w) fun p0_15 =>
  allX R0 w fun V0 w => p0_8 (V0 8) w ∧ p0_9 (V0 9) w ∧ p0_10 (V0 10) w ∧ p0_11 (V0 11) w ∧ p0_12 (V0 12) w ∧ p0_13 (V0 13) w ∧ p0_14 (V0 14) w ∧ p0_15 (V0 15) w ∧ True → xDist V0 [] →
  kN P (callN (.func (.func 19) #[] #[]) #[(V0 13), (V0 14), (V0 15), (.int .u64 18446744073709551615)]) w fun v16 w =>
  kU P (Instr.storeAt 42 t3 (V0 12)) w fun _ w =>
  kU P (Instr.storeAt 42 t4 v16) w fun _ w =>
  K (.tuple #[]) w) w
theorem F40_eq (P : Program) (t0 t1 t2 t3 t4 : Value) (w : World) (K : Value → World → Prop) : funE P ⟨[(0, 1008)], [], []⟩ Tryd.f40 [t0, t1, t2, t3, t4] w K = F40 P t0 t1 t2 t3 t4 w K := by kernel_rfl
theorem F40_ok (t0 t1 t2 t3 t4 : Value) (w : World) (K : Value → World → Prop) (h : F40 Tryd.prog t0 t1 t2 t3 t4 w K) : callsK Tryd.prog 40 #[t0, t1, t2, t3, t4] w K := calls_of_eq mixedX Tryd.func40 (F40_eq _ t0 t1 t2 t3 t4 w K) h

end Go.Proofs.YtobkjnmdbkieeaaDoor
