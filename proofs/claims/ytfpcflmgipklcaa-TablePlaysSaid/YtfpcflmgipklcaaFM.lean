/- The formulas of functions of this seat, each tied to its calls; conditions: none. -/
import Derived.Test.YtfpcflmgipklcaaProg
import Derived.Test.YtfpcflmgipklcaaFx
import Derived.KernelRfl
namespace Go.Proofs.Ytfpcflmgipklcaa
open Go.Fx
set_option linter.unusedVariables false
set_option linter.constructorNameAsVariable false
set_option maxRecDepth 100000
theorem mixedM : Try.prog.follows .mixedOrders = true := by kernel_rfl
/-- mintmark/ram.New -/
def F6 (P : Program) (t0 : Value) (w : World) (K : Value → World → Prop) : Prop :=
  kV P (binV .lss 3 (.tmp 4) (.const (.int .i64 1)) t0 (.int .i64 1)) w fun v5 w =>
  joinK (fun J0 : Value → World → Prop => gdK (yb v5) false (fun k => k t0 w) w fun v7 w =>
  gdK (yb v5) false (fun k => kV P (binV .gtr 3 (.tmp 7) (.const (.int .i64 64)) v7 (.int .i64 64)) w k) w fun v8 w =>
  kN P (pickN v5 (.bool true) v8) w fun v9_1 w =>
  J0 v9_1 w) fun v9 w =>
  condK v9
  (K (.tuple #[(.pointer none), (.int .i64 2)]) w)
  (kV P (Instr.makeSlice 76 t0 t0) w fun v11 w =>
  kV P (Instr.build 78 #[(0, v11)]) w fun v12 w =>
  kV P (Instr.box 78 v12) w fun v13 w =>
  K (.tuple #[v13, (.int .i64 0)]) w)
theorem F6_eq (P : Program) (t0 : Value) (w : World) (K : Value → World → Prop) : funE P ⟨[], [], []⟩ Try.f6 [t0] w K = F6 P t0 w K := by kernel_rfl
theorem F6_ok (t0 : Value) (w : World) (K : Value → World → Prop) (h : F6 Try.prog t0 w K) : callsK Try.prog 6 #[t0] w K := calls_of_eq mixedM Try.func6 (F6_eq _ t0 w K) h

/-- mintmark/walk.Walk -/
def F20 (P : Program) (t0 t1 t2 : Value) (w : World) (K : Value → World → Prop) : Prop :=
  kV P (Instr.alloc 59 true (.tuple #[])) w fun v6 w =>
  kN P (callN (.func (.func 31) #[] #[]) #[t0]) w fun v18 w =>
  kV P (convert 3 23 v18) w fun v19 w =>
  kV P (Instr.build 59 #[]) w fun v20 w =>
  kV P (Instr.alloc 59 true (.tuple #[])) w fun v10 w =>
  kU P (Instr.storeAt 59 v10 v20) w fun _ w =>
  joinL (fun J0 =>
  loopT (fun R3 s3 w => ∀ _ : Nat → Value,
  kN P (callN (.func (.func 34) #[] #[]) #[t2]) w fun v22 w =>
  condK v22
  (kV P (binV .geq 23 (.tmp 25) (.tmp 26) (s3.getD 0 undef) v19) w fun v27 w =>
  condK v27
  (J0 [] w)
  (kN P (callN (.func (.func 49) #[] #[]) #[t2, (s3.getD 1 undef)]) w fun v31 w =>
  kN P (callN (.func (.func 48) #[] #[]) #[(s3.getD 0 undef), v31]) w fun v32 w =>
  kN P (callN (.func (.func 50) #[] #[]) #[t0, v32, (.int .i64 8)]) w fun v36 w =>
  kV P (Instr.extract v36 0) w fun v37 w =>
  kV P (Instr.extract v36 1) w fun v38 w =>
  kN P (callN (.func (.func 25) #[] #[]) #[v37]) w fun v40 w =>
  kV P (Instr.alloc 40 true (.tuple #[])) w fun v15 w =>
  kU P (Instr.storeAt 40 v15 v40) w fun _ w =>
  joinL (fun J5 =>
  kV P (Instr.fieldAt 40 v15 0) w fun v42 w =>
  kV P (Instr.loadAt 4 v42) w fun v43 w =>
  kV P (Op.unary .not v43) w fun v44 w =>
  condK v44
  (J5 [v44] w)
  (kV P (Instr.loadAt 40 v15) w fun v45 w =>
  kN P (callN (.func (.func 24) #[] #[]) #[v45]) w fun v46 w =>
  kV P (Op.unary .not v46) w fun v47 w =>
  condK v47
  (J5 [v47] w)
  (kV P (Instr.loadAt 40 v15) w fun v48 w =>
  kN P (callN (.func (.func 23) #[] #[]) #[v48]) w fun v49 w =>
  kV P (binV .eql 3 (.tmp 50) (.const (.int .i64 0)) (s3.getD 1 undef) (.int .i64 0)) w fun v51 w =>
  kV P (binV .neq 4 (.tmp 49) (.tmp 51) v49 v51) w fun v52 w =>
  condK v52
  (J5 [v52] w)
  (kV P (Instr.fieldAt 40 v15 12) w fun v53 w =>
  kV P (Instr.loadAt 23 v53) w fun v54 w =>
  kV P (binV .geq 23 (.tmp 54) (.tmp 55) v54 v19) w fun v56 w =>
  J5 [v56] w)))) fun s5 w => ∀ _ : Nat → Value,
  condK (s5.getD 0 undef)
  (J0 [] w)
  (kV P (binV .eql 3 (.tmp 58) (.const (.int .i64 0)) (s3.getD 1 undef) (.int .i64 0)) w fun v59 w =>
  condK v59
  (kV P (Instr.loadAt 40 v15) w fun v60 w =>
  kV P (Instr.build 59 #[(0, v60), (1, v32)]) w fun v62 w =>
  kU P (Instr.storeAt 59 v10 v62) w fun _ w =>
  kV P (Instr.loadAt 59 v10) w fun v63 w =>
  kU P (Instr.storeAt 59 v6 v63) w fun _ w =>
  retV P 59 v6 w fun r7 =>
  K (.tuple #[r7, (.int .i64 0)]) w)
  (kV P (Instr.fieldAt 40 v15 12) w fun v64 w =>
  kV P (Instr.loadAt 23 v64) w fun v65 w =>
  kV P (binV .sub 3 (.tmp 23) (.const (.int .i64 1)) (s3.getD 1 undef) (.int .i64 1)) w fun v24 w =>
  R3 [v65, v24] w))))
  (J0 [] w)) [t1, (.int .i64 2)] w) fun s0 w => ∀ _ : Nat → Value,
  kV P (Instr.build 59 #[]) w fun v66 w =>
  kU P (Instr.storeAt 59 v6 v66) w fun _ w =>
  retV P 59 v6 w fun r2 =>
  K (.tuple #[r2, (.int .i64 1)]) w
theorem F20_eq (P : Program) (t0 t1 t2 : Value) (w : World) (K : Value → World → Prop) : funE P ⟨[], [(5, [8, 11])], [(19, []), (15, [41])]⟩ Try.f20 [t0, t1, t2] w K = F20 P t0 t1 t2 w K := by kernel_rfl
theorem F20_ok (t0 t1 t2 : Value) (w : World) (K : Value → World → Prop) (h : F20 Try.prog t0 t1 t2 w K) : callsK Try.prog 20 #[t0, t1, t2] w K := calls_of_eq mixedM Try.func20 (F20_eq _ t0 t1 t2 w K) h

/-- mintmark/pte.Leaf -/
def F23 (P : Program) (t0 : Value) (w : World) (K : Value → World → Prop) : Prop :=
  kV P (Instr.box 40 t0) w fun v1 w =>
  kV P (Instr.fieldAt 40 v1 0) w fun v3 w =>
  kV P (Instr.loadAt 4 v3) w fun v4 w =>
  joinK (fun J0 : Value → World → Prop => gdK (yb v4) true (fun k => kV P (Instr.fieldAt 40 v1 1) w k) w fun v6 w =>
  gdK (yb v4) true (fun k => kV P (Instr.loadAt 4 v6) w k) w fun v7 w =>
  gdK (yb v4) true (fun k => k v7 w) w fun v8 w =>
  gdK (yb v8) false (fun k => kV P (Instr.fieldAt 40 v1 2) w k) w fun v9 w =>
  gdK (yb v8) false (fun k => kV P (Instr.loadAt 4 v9) w k) w fun v10 w =>
  gdK (yb v4) true (fun k => kN P (pickN v8 (.bool true) v10) w k) w fun v11 w =>
  gdK (yb v4) true (fun k => k v11 w) w fun v12 w =>
  gdK (yb v12) false (fun k => kV P (Instr.fieldAt 40 v1 3) w k) w fun v13 w =>
  gdK (yb v12) false (fun k => kV P (Instr.loadAt 4 v13) w k) w fun v14 w =>
  gdK (yb v4) true (fun k => kN P (pickN v12 (.bool true) v14) w k) w fun v15 w =>
  kN P (pickN v4 v15 (.bool false)) w fun v16_1 w =>
  J0 v16_1 w) fun v16 w =>
  K v16 w
theorem F23_eq (P : Program) (t0 : Value) (w : World) (K : Value → World → Prop) : funE P ⟨[], [], []⟩ Try.f23 [t0] w K = F23 P t0 w K := by kernel_rfl
theorem F23_ok (t0 : Value) (w : World) (K : Value → World → Prop) (h : F23 Try.prog t0 w K) : callsK Try.prog 23 #[t0] w K := calls_of_eq mixedM Try.func23 (F23_eq _ t0 w K) h

/-- mintmark/pte.Right -/
def F24 (P : Program) (t0 : Value) (w : World) (K : Value → World → Prop) : Prop :=
  kV P (Instr.box 40 t0) w fun v1 w =>
  kV P (Instr.fieldAt 40 v1 0) w fun v4 w =>
  kV P (Instr.loadAt 4 v4) w fun v5 w =>
  kV P (Op.unary .not v5) w fun v6 w =>
  condK v6
  (K (.bool true) w)
  (joinL (fun J0 =>
  kV P (Instr.fieldAt 40 v1 2) w fun v8 w =>
  kV P (Instr.loadAt 4 v8) w fun v9 w =>
  joinK (fun J2 : Value → World → Prop => gdK (yb v9) true (fun k => kV P (Instr.fieldAt 40 v1 1) w k) w fun v11 w =>
  gdK (yb v9) true (fun k => kV P (Instr.loadAt 4 v11) w k) w fun v12 w =>
  gdK (yb v9) true (fun k => kV P (Op.unary .not v12) w k) w fun v13 w =>
  kN P (pickN v9 v13 (.bool false)) w fun v14_1 w =>
  J2 v14_1 w) fun v14 w =>
  condK v14
  (J0 [v14] w)
  (kV P (Instr.fieldAt 40 v1 8) w fun v15 w =>
  kV P (Instr.loadAt 4 v15) w fun v16 w =>
  joinK (fun J3 : Value → World → Prop => gdK (yb v16) true (fun k => kV P (Instr.fieldAt 40 v1 2) w k) w fun v18 w =>
  gdK (yb v16) true (fun k => kV P (Instr.loadAt 4 v18) w k) w fun v19 w =>
  gdK (yb v16) true (fun k => kV P (Op.unary .not v19) w k) w fun v20 w =>
  kN P (pickN v16 v20 (.bool false)) w fun v21_1 w =>
  J3 v21_1 w) fun v21 w =>
  condK v21
  (J0 [v21] w)
  (kV P (Instr.fieldAt 40 v1 9) w fun v22 w =>
  kV P (Instr.loadAt 4 v22) w fun v23 w =>
  joinK (fun J4 : Value → World → Prop => gdK (yb v23) true (fun k => kV P (Instr.fieldAt 40 v1 1) w k) w fun v25 w =>
  gdK (yb v23) true (fun k => kV P (Instr.loadAt 4 v25) w k) w fun v26 w =>
  gdK (yb v23) true (fun k => kV P (Op.unary .not v26) w k) w fun v27 w =>
  kN P (pickN v23 v27 (.bool false)) w fun v28_1 w =>
  J4 v28_1 w) fun v28 w =>
  condK v28
  (J0 [v28] w)
  (drewK (fun w =>
  pV P (Instr.fieldAt 40 v1 12) fun v29 =>
  (kV P (Instr.loadAt 23 v29) w fun v30 w =>
  kN P (callN (.func (.func 51) #[] #[]) #[(.int .i64 44)]) w fun v31 w =>
  pV P (binV .gtr 23 (.tmp 30) (.tmp 31) v30 v31) fun v32 =>
  J0 [v32] w) ∧
  (kN P (callN (.func (.func 51) #[] #[]) #[(.int .i64 44)]) w fun v31_1 w =>
  kV P (Instr.loadAt 23 v29) w fun v30_1 w =>
  pV P (binV .gtr 23 (.tmp 30) (.tmp 31) v30_1 v31_1) fun v32_1 =>
  J0 [v32_1] w)) w)))) fun s0 w => ∀ _ : Nat → Value,
  condK (s0.getD 0 undef)
  (K (.bool false) w)
  (kV P (Instr.loadAt 40 v1) w fun v34 w =>
  kN P (callN (.func (.func 23) #[] #[]) #[v34]) w fun v35 w =>
  condK v35
  (K (.bool true) w)
  (kV P (Instr.loadAt 40 v1) w fun v36 w =>
  kV P (Instr.fieldAt 40 v1 5) w fun v37 w =>
  kV P (Instr.loadAt 4 v37) w fun v38 w =>
  kV P (Instr.fieldAt 40 v1 12) w fun v39 w =>
  kV P (Instr.loadAt 23 v39) w fun v40 w =>
  kV P (Instr.build 40 #[(0, (.bool true)), (5, v38), (12, v40)]) w fun v41 w =>
  kV P (binV .eql 40 (.tmp 36) (.tmp 41) v36 v41) w fun v42 w =>
  K v42 w)))
theorem F24_eq (P : Program) (t0 : Value) (w : World) (K : Value → World → Prop) : funE P ⟨[(6, 999)], [], [(7, [7])]⟩ Try.f24 [t0] w K = F24 P t0 w K := by kernel_rfl
theorem F24_ok (t0 : Value) (w : World) (K : Value → World → Prop) (h : F24 Try.prog t0 w K) : callsK Try.prog 24 #[t0] w K := calls_of_eq mixedM Try.func24 (F24_eq _ t0 w K) h

/-- mintmark/pte.Of -/
def F25 (P : Program) (t0 : Value) (w : World) (K : Value → World → Prop) : Prop :=
  kV P (Instr.alloc 40 true (.tuple #[])) w fun v2 w =>
  kN P (callN (.func (.func 52) #[] #[]) #[t0, (.int .i64 10), (.int .i64 44)]) w fun v8 w =>
  kV P (Instr.build 40 #[(12, v8)]) w fun v9 w =>
  kV P (Instr.alloc 40 true (.tuple #[])) w fun v3 w =>
  kU P (Instr.storeAt 40 v3 v9) w fun _ w =>
  kN P (callN (.func (.func 53) #[] #[]) #[v3]) w fun v10 w =>
  kV P (Instr.alloc 105 true (.tuple #[])) w fun v4 w =>
  kU P (Instr.storeAt 105 v4 v10) w fun _ w =>
  kN P (callN (.func (.func 54) #[] #[]) #[]) w fun v11 w =>
  loopT (fun R0 s0 w => ∀ _ : Nat → Value,
  kV P (binV .lss 3 (.tmp 12) (.const (.int .i64 12)) (s0.getD 0 undef) (.int .i64 12)) w fun v13 w =>
  condK v13
  (kV P (Instr.index 107 v11 (s0.getD 0 undef)) w fun v15 w =>
  drewK (fun w =>
  sV P (Instr.indexAt 105 v4 (s0.getD 0 undef)) w fun v17 =>
  sV P (Instr.loadAt 104 v17) w fun v18 =>
  sV P (binV .shr 23 (.tmp 19) (.tmp 20) t0 v15) w fun v21 =>
  sV P (binV .and 23 (.tmp 21) (.const (.int .u64 1)) v21 (.int .u64 1)) w fun v22 =>
  sV P (binV .neq 23 (.tmp 22) (.const (.int .u64 0)) v22 (.int .u64 0)) w fun v23 =>
  kN P (nilN v18) w fun v24 w =>
  kU P (Instr.storeAt 4 v24 v23) w fun _ w =>
  kV P (binV .add 3 (.tmp 12) (.const (.int .i64 1)) (s0.getD 0 undef) (.int .i64 1)) w fun v25 w =>
  R0 [v25] w) w)
  (kV P (Instr.loadAt 40 v3) w fun v26 w =>
  kU P (Instr.storeAt 40 v2 v26) w fun _ w =>
  retV P 40 v2 w fun r2 =>
  K r2 w)) [(.int .i64 0)] w
theorem F25_eq (P : Program) (t0 : Value) (w : World) (K : Value → World → Prop) : funE P ⟨[(6, 8)], [(4, [12])], []⟩ Try.f25 [t0] w K = F25 P t0 w K := by kernel_rfl
theorem F25_ok (t0 : Value) (w : World) (K : Value → World → Prop) (h : F25 Try.prog t0 w K) : callsK Try.prog 25 #[t0] w K := calls_of_eq mixedM Try.func25 (F25_eq _ t0 w K) h

/-- mintmark/pte.Word -/
def F26 (P : Program) (t0 : Value) (w : World) (K : Value → World → Prop) : Prop :=
  kV P (Instr.box 40 t0) w fun v1 w =>
  kV P (Instr.fieldAt 40 v1 12) w fun v7 w =>
  kV P (Instr.loadAt 23 v7) w fun v8 w =>
  kN P (callN (.func (.func 55) #[] #[]) #[(.int .u64 0), (.int .i64 10), (.int .i64 44), v8]) w fun v9 w =>
  kN P (callN (.func (.func 53) #[] #[]) #[v1]) w fun v10 w =>
  kV P (Instr.alloc 105 true (.tuple #[])) w fun v4 w =>
  kU P (Instr.storeAt 105 v4 v10) w fun _ w =>
  kN P (callN (.func (.func 54) #[] #[]) #[]) w fun v11 w =>
  loopT (fun R0 s0 w => ∀ _ : Nat → Value,
  kV P (binV .lss 3 (.tmp 12) (.const (.int .i64 12)) (s0.getD 1 undef) (.int .i64 12)) w fun v13 w =>
  condK v13
  (joinL (fun J2 =>
  kV P (Instr.index 107 v11 (s0.getD 1 undef)) w fun v15 w =>
  kV P (Instr.indexAt 105 v4 (s0.getD 1 undef)) w fun v17 w =>
  kV P (Instr.loadAt 104 v17) w fun v18 w =>
  kN P (nilN v18) w fun v19 w =>
  kV P (Instr.loadAt 4 v19) w fun v20 w =>
  condK v20
  (kV P (binV .shl 23 (.const (.int .u64 1)) (.tmp 22) (.int .u64 1) v15) w fun v23 w =>
  kV P (binV .or 23 (.tmp 21) (.tmp 23) (s0.getD 0 undef) v23) w fun v24 w =>
  J2 [v24] w)
  (J2 [(s0.getD 0 undef)] w)) fun s2 w => ∀ _ : Nat → Value,
  kV P (binV .add 3 (.tmp 12) (.const (.int .i64 1)) (s0.getD 1 undef) (.int .i64 1)) w fun v25 w =>
  R0 [(s2.getD 0 undef), v25] w)
  (K (s0.getD 0 undef) w)) [v9, (.int .i64 0)] w
theorem F26_eq (P : Program) (t0 : Value) (w : World) (K : Value → World → Prop) : funE P ⟨[], [(4, [3, 12])], [(8, [3])]⟩ Try.f26 [t0] w K = F26 P t0 w K := by kernel_rfl
theorem F26_ok (t0 : Value) (w : World) (K : Value → World → Prop) (h : F26 Try.prog t0 w K) : callsK Try.prog 26 #[t0] w K := calls_of_eq mixedM Try.func26 (F26_eq _ t0 w K) h

/-- (*mintmark/ram.Ram).Frames -/
def F31 (P : Program) (t0 : Value) (w : World) (K : Value → World → Prop) : Prop :=
  kN P (callN (.func (.func 58) #[] #[]) #[t0]) w fun v4 w =>
  condK v4
  (K (.int .i64 0) w)
  (kN P (nilN t0) w fun v6 w =>
  kV P (Instr.fieldAt 78 v6 0) w fun v7 w =>
  kV P (Instr.loadAt 76 v7) w fun v8 w =>
  kV P (Builtin.len_ #[76] 3 #[v8]) w fun v9 w =>
  K v9 w)
theorem F31_eq (P : Program) (t0 : Value) (w : World) (K : Value → World → Prop) : funE P ⟨[], [], []⟩ Try.f31 [t0] w K = F31 P t0 w K := by kernel_rfl
theorem F31_ok (t0 : Value) (w : World) (K : Value → World → Prop) (h : F31 Try.prog t0 w K) : callsK Try.prog 31 #[t0] w K := calls_of_eq mixedM Try.func31 (F31_eq _ t0 w K) h

/-- mintmark/pte.May -/
def F34 (P : Program) (t0 : Value) (w : World) (K : Value → World → Prop) : Prop :=
  kV P (binV .lss 23 (.tmp 3) (.const (.int .u64 274877906944)) t0 (.int .u64 274877906944)) w fun v4 w =>
  K v4 w
theorem F34_eq (P : Program) (t0 : Value) (w : World) (K : Value → World → Prop) : funE P ⟨[], [], []⟩ Try.f34 [t0] w K = F34 P t0 w K := by kernel_rfl
theorem F34_ok (t0 : Value) (w : World) (K : Value → World → Prop) (h : F34 Try.prog t0 w K) : callsK Try.prog 34 #[t0] w K := calls_of_eq mixedM Try.func34 (F34_eq _ t0 w K) h

/-- (*mintmark/ram.Ram).Store -/
def F36 (P : Program) (t0 t1 t2 t3 : Value) (w : World) (K : Value → World → Prop) : Prop :=
  kV P (Instr.box 23 t3) w fun v7 w =>
  kN P (callN (.func (.func 61) #[] #[]) #[t2]) w fun v16 w =>
  kV P (Instr.extract v16 0) w fun v17 w =>
  kV P (Instr.extract v16 1) w fun v18 w =>
  kN P (callN (.func (.func 62) #[] #[]) #[t0, t1, v17]) w fun v23 w =>
  kV P (Instr.extract v23 0) w fun v24 w =>
  kV P (Instr.extract v23 1) w fun v25 w =>
  kV P (Instr.extract v23 2) w fun v26 w =>
  kV P (Instr.alloc 113 true (.tuple #[])) w fun v11 w =>
  kV P (Instr.alloc 3 true (.tuple #[])) w fun v12 w =>
  kU P (Instr.storeAt 113 v11 v24) w fun _ w =>
  kU P (Instr.storeAt 3 v12 v25) w fun _ w =>
  joinL (fun J0 =>
  kV P (binV .eql 25 (.tmp 27) (.const (.int .i64 0)) v26 (.int .i64 0)) w fun v28 w =>
  joinK (fun J4 : Value → World → Prop => gdK (yb v28) true (fun k => k v18 w) w fun v30 w =>
  gdK (yb v28) true (fun k => kV P (Op.unary .not v30) w k) w fun v31 w =>
  kN P (pickN v28 v31 (.bool false)) w fun v32_1 w =>
  J4 v32_1 w) fun v32 w =>
  condK v32
  (J0 [(.int .i64 2)] w)
  (J0 [v26] w)) fun s0 w => ∀ _ : Nat → Value,
  kV P (binV .neq 25 (.tmp 33) (.const (.int .i64 0)) (s0.getD 0 undef) (.int .i64 0)) w fun v34 w =>
  condK v34
  (K (s0.getD 0 undef) w)
  (kN P (callN (.func (.func 63) #[] #[]) #[t2, (.func (.func 64) #[] #[v7, v11, v12])]) w fun v38 w =>
  joinL (fun J2 =>
  drewK (fun w =>
  (kV P (Instr.loadAt 113 v11) w fun v39 w =>
  (kV P (Instr.loadAt 113 v11) w fun v40 w =>
  pN P (nilN v40) fun v41 =>
  pV P (Instr.fieldAt 121 v41 1) fun v42 =>
  (kV P (Instr.loadAt 119 v42) w fun v43 w =>
  kV P (Instr.loadAt 3 v12) w fun v44 w =>
  kN P (callN (.func (.func 66) #[] #[]) #[v44, t2]) w fun v46 w =>
  kN P (callN (.func (.func 65) #[] #[]) #[v43, v46]) w fun v47 w =>
  pN P (nilN v39) fun v48 =>
  pV P (Instr.fieldAt 121 v48 1) fun v49 =>
  kU P (Instr.storeAt 119 v49 v47) w fun _ w =>
  J2 [] w) ∧
  (kV P (Instr.loadAt 3 v12) w fun v44_1 w =>
  (kV P (Instr.loadAt 119 v42) w fun v43_1 w =>
  kN P (callN (.func (.func 66) #[] #[]) #[v44_1, t2]) w fun v46_1 w =>
  kN P (callN (.func (.func 65) #[] #[]) #[v43_1, v46_1]) w fun v47_1 w =>
  pN P (nilN v39) fun v48_1 =>
  pV P (Instr.fieldAt 121 v48_1 1) fun v49_1 =>
  kU P (Instr.storeAt 119 v49_1 v47_1) w fun _ w =>
  J2 [] w) ∧
  (kN P (callN (.func (.func 66) #[] #[]) #[v44_1, t2]) w fun v46_2 w =>
  kV P (Instr.loadAt 119 v42) w fun v43_2 w =>
  kN P (callN (.func (.func 65) #[] #[]) #[v43_2, v46_2]) w fun v47_2 w =>
  pN P (nilN v39) fun v48_2 =>
  pV P (Instr.fieldAt 121 v48_2 1) fun v49_2 =>
  kU P (Instr.storeAt 119 v49_2 v47_2) w fun _ w =>
  J2 [] w))) ∧
  (kV P (Instr.loadAt 3 v12) w fun v44_2 w =>
  (kV P (Instr.loadAt 113 v11) w fun v40_1 w =>
  pN P (nilN v40_1) fun v41_1 =>
  pV P (Instr.fieldAt 121 v41_1 1) fun v42_1 =>
  (kV P (Instr.loadAt 119 v42_1) w fun v43_3 w =>
  kN P (callN (.func (.func 66) #[] #[]) #[v44_2, t2]) w fun v46_3 w =>
  kN P (callN (.func (.func 65) #[] #[]) #[v43_3, v46_3]) w fun v47_3 w =>
  pN P (nilN v39) fun v48_3 =>
  pV P (Instr.fieldAt 121 v48_3 1) fun v49_3 =>
  kU P (Instr.storeAt 119 v49_3 v47_3) w fun _ w =>
  J2 [] w) ∧
  (kN P (callN (.func (.func 66) #[] #[]) #[v44_2, t2]) w fun v46_4 w =>
  kV P (Instr.loadAt 119 v42_1) w fun v43_4 w =>
  kN P (callN (.func (.func 65) #[] #[]) #[v43_4, v46_4]) w fun v47_4 w =>
  pN P (nilN v39) fun v48_4 =>
  pV P (Instr.fieldAt 121 v48_4 1) fun v49_4 =>
  kU P (Instr.storeAt 119 v49_4 v47_4) w fun _ w =>
  J2 [] w)) ∧
  (kN P (callN (.func (.func 66) #[] #[]) #[v44_2, t2]) w fun v46_5 w =>
  kV P (Instr.loadAt 113 v11) w fun v40_2 w =>
  pN P (nilN v40_2) fun v41_2 =>
  pV P (Instr.fieldAt 121 v41_2 1) fun v42_2 =>
  kV P (Instr.loadAt 119 v42_2) w fun v43_5 w =>
  kN P (callN (.func (.func 65) #[] #[]) #[v43_5, v46_5]) w fun v47_5 w =>
  pN P (nilN v39) fun v48_5 =>
  pV P (Instr.fieldAt 121 v48_5 1) fun v49_5 =>
  kU P (Instr.storeAt 119 v49_5 v47_5) w fun _ w =>
  J2 [] w))) ∧
  (kV P (Instr.loadAt 113 v11) w fun v40_3 w =>
  pN P (nilN v40_3) fun v41_3 =>
  pV P (Instr.fieldAt 121 v41_3 1) fun v42_3 =>
  (kV P (Instr.loadAt 113 v11) w fun v39_1 w =>
  (kV P (Instr.loadAt 119 v42_3) w fun v43_6 w =>
  kV P (Instr.loadAt 3 v12) w fun v44_3 w =>
  kN P (callN (.func (.func 66) #[] #[]) #[v44_3, t2]) w fun v46_6 w =>
  kN P (callN (.func (.func 65) #[] #[]) #[v43_6, v46_6]) w fun v47_6 w =>
  pN P (nilN v39_1) fun v48_6 =>
  pV P (Instr.fieldAt 121 v48_6 1) fun v49_6 =>
  kU P (Instr.storeAt 119 v49_6 v47_6) w fun _ w =>
  J2 [] w) ∧
  (kV P (Instr.loadAt 3 v12) w fun v44_4 w =>
  (kV P (Instr.loadAt 119 v42_3) w fun v43_7 w =>
  kN P (callN (.func (.func 66) #[] #[]) #[v44_4, t2]) w fun v46_7 w =>
  kN P (callN (.func (.func 65) #[] #[]) #[v43_7, v46_7]) w fun v47_7 w =>
  pN P (nilN v39_1) fun v48_7 =>
  pV P (Instr.fieldAt 121 v48_7 1) fun v49_7 =>
  kU P (Instr.storeAt 119 v49_7 v47_7) w fun _ w =>
  J2 [] w) ∧
  (kN P (callN (.func (.func 66) #[] #[]) #[v44_4, t2]) w fun v46_8 w =>
  kV P (Instr.loadAt 119 v42_3) w fun v43_8 w =>
  kN P (callN (.func (.func 65) #[] #[]) #[v43_8, v46_8]) w fun v47_8 w =>
  pN P (nilN v39_1) fun v48_8 =>
  pV P (Instr.fieldAt 121 v48_8 1) fun v49_8 =>
  kU P (Instr.storeAt 119 v49_8 v47_8) w fun _ w =>
  J2 [] w))) ∧
  (kV P (Instr.loadAt 119 v42_3) w fun v43_9 w =>
  (kV P (Instr.loadAt 113 v11) w fun v39_2 w =>
  kV P (Instr.loadAt 3 v12) w fun v44_5 w =>
  kN P (callN (.func (.func 66) #[] #[]) #[v44_5, t2]) w fun v46_9 w =>
  kN P (callN (.func (.func 65) #[] #[]) #[v43_9, v46_9]) w fun v47_9 w =>
  pN P (nilN v39_2) fun v48_9 =>
  pV P (Instr.fieldAt 121 v48_9 1) fun v49_9 =>
  kU P (Instr.storeAt 119 v49_9 v47_9) w fun _ w =>
  J2 [] w) ∧
  (kV P (Instr.loadAt 3 v12) w fun v44_6 w =>
  (kV P (Instr.loadAt 113 v11) w fun v39_3 w =>
  kN P (callN (.func (.func 66) #[] #[]) #[v44_6, t2]) w fun v46_10 w =>
  kN P (callN (.func (.func 65) #[] #[]) #[v43_9, v46_10]) w fun v47_10 w =>
  pN P (nilN v39_3) fun v48_10 =>
  pV P (Instr.fieldAt 121 v48_10 1) fun v49_10 =>
  kU P (Instr.storeAt 119 v49_10 v47_10) w fun _ w =>
  J2 [] w) ∧
  (kN P (callN (.func (.func 66) #[] #[]) #[v44_6, t2]) w fun v46_11 w =>
  (kV P (Instr.loadAt 113 v11) w fun v39_4 w =>
  kN P (callN (.func (.func 65) #[] #[]) #[v43_9, v46_11]) w fun v47_11 w =>
  pN P (nilN v39_4) fun v48_11 =>
  pV P (Instr.fieldAt 121 v48_11 1) fun v49_11 =>
  kU P (Instr.storeAt 119 v49_11 v47_11) w fun _ w =>
  J2 [] w) ∧
  (kN P (callN (.func (.func 65) #[] #[]) #[v43_9, v46_11]) w fun v47_12 w =>
  kV P (Instr.loadAt 113 v11) w fun v39_5 w =>
  pN P (nilN v39_5) fun v48_12 =>
  pV P (Instr.fieldAt 121 v48_12 1) fun v49_12 =>
  kU P (Instr.storeAt 119 v49_12 v47_12) w fun _ w =>
  J2 [] w)))) ∧
  (kV P (Instr.loadAt 3 v12) w fun v44_7 w =>
  (kV P (Instr.loadAt 113 v11) w fun v39_6 w =>
  (kV P (Instr.loadAt 119 v42_3) w fun v43_10 w =>
  kN P (callN (.func (.func 66) #[] #[]) #[v44_7, t2]) w fun v46_12 w =>
  kN P (callN (.func (.func 65) #[] #[]) #[v43_10, v46_12]) w fun v47_13 w =>
  pN P (nilN v39_6) fun v48_13 =>
  pV P (Instr.fieldAt 121 v48_13 1) fun v49_13 =>
  kU P (Instr.storeAt 119 v49_13 v47_13) w fun _ w =>
  J2 [] w) ∧
  (kN P (callN (.func (.func 66) #[] #[]) #[v44_7, t2]) w fun v46_13 w =>
  kV P (Instr.loadAt 119 v42_3) w fun v43_11 w =>
  kN P (callN (.func (.func 65) #[] #[]) #[v43_11, v46_13]) w fun v47_14 w =>
  pN P (nilN v39_6) fun v48_14 =>
  pV P (Instr.fieldAt 121 v48_14 1) fun v49_14 =>
  kU P (Instr.storeAt 119 v49_14 v47_14) w fun _ w =>
  J2 [] w)) ∧
  (kV P (Instr.loadAt 119 v42_3) w fun v43_12 w =>
  (kV P (Instr.loadAt 113 v11) w fun v39_7 w =>
  kN P (callN (.func (.func 66) #[] #[]) #[v44_7, t2]) w fun v46_14 w =>
  kN P (callN (.func (.func 65) #[] #[]) #[v43_12, v46_14]) w fun v47_15 w =>
  pN P (nilN v39_7) fun v48_15 =>
  pV P (Instr.fieldAt 121 v48_15 1) fun v49_15 =>
  kU P (Instr.storeAt 119 v49_15 v47_15) w fun _ w =>
  J2 [] w) ∧
  (kN P (callN (.func (.func 66) #[] #[]) #[v44_7, t2]) w fun v46_15 w =>
  (kV P (Instr.loadAt 113 v11) w fun v39_8 w =>
  kN P (callN (.func (.func 65) #[] #[]) #[v43_12, v46_15]) w fun v47_16 w =>
  pN P (nilN v39_8) fun v48_16 =>
  pV P (Instr.fieldAt 121 v48_16 1) fun v49_16 =>
  kU P (Instr.storeAt 119 v49_16 v47_16) w fun _ w =>
  J2 [] w) ∧
  (kN P (callN (.func (.func 65) #[] #[]) #[v43_12, v46_15]) w fun v47_17 w =>
  kV P (Instr.loadAt 113 v11) w fun v39_9 w =>
  pN P (nilN v39_9) fun v48_17 =>
  pV P (Instr.fieldAt 121 v48_17 1) fun v49_17 =>
  kU P (Instr.storeAt 119 v49_17 v47_17) w fun _ w =>
  J2 [] w))) ∧
  (kN P (callN (.func (.func 66) #[] #[]) #[v44_7, t2]) w fun v46_16 w =>
  (kV P (Instr.loadAt 113 v11) w fun v39_10 w =>
  kV P (Instr.loadAt 119 v42_3) w fun v43_13 w =>
  kN P (callN (.func (.func 65) #[] #[]) #[v43_13, v46_16]) w fun v47_18 w =>
  pN P (nilN v39_10) fun v48_18 =>
  pV P (Instr.fieldAt 121 v48_18 1) fun v49_18 =>
  kU P (Instr.storeAt 119 v49_18 v47_18) w fun _ w =>
  J2 [] w) ∧
  (kV P (Instr.loadAt 119 v42_3) w fun v43_14 w =>
  (kV P (Instr.loadAt 113 v11) w fun v39_11 w =>
  kN P (callN (.func (.func 65) #[] #[]) #[v43_14, v46_16]) w fun v47_19 w =>
  pN P (nilN v39_11) fun v48_19 =>
  pV P (Instr.fieldAt 121 v48_19 1) fun v49_19 =>
  kU P (Instr.storeAt 119 v49_19 v47_19) w fun _ w =>
  J2 [] w) ∧
  (kN P (callN (.func (.func 65) #[] #[]) #[v43_14, v46_16]) w fun v47_20 w =>
  kV P (Instr.loadAt 113 v11) w fun v39_12 w =>
  pN P (nilN v39_12) fun v48_20 =>
  pV P (Instr.fieldAt 121 v48_20 1) fun v49_20 =>
  kU P (Instr.storeAt 119 v49_20 v47_20) w fun _ w =>
  J2 [] w))))) ∧
  (kV P (Instr.loadAt 3 v12) w fun v44_8 w =>
  (kV P (Instr.loadAt 113 v11) w fun v39_13 w =>
  (kV P (Instr.loadAt 113 v11) w fun v40_4 w =>
  pN P (nilN v40_4) fun v41_4 =>
  pV P (Instr.fieldAt 121 v41_4 1) fun v42_4 =>
  (kV P (Instr.loadAt 119 v42_4) w fun v43_15 w =>
  kN P (callN (.func (.func 66) #[] #[]) #[v44_8, t2]) w fun v46_17 w =>
  kN P (callN (.func (.func 65) #[] #[]) #[v43_15, v46_17]) w fun v47_21 w =>
  pN P (nilN v39_13) fun v48_21 =>
  pV P (Instr.fieldAt 121 v48_21 1) fun v49_21 =>
  kU P (Instr.storeAt 119 v49_21 v47_21) w fun _ w =>
  J2 [] w) ∧
  (kN P (callN (.func (.func 66) #[] #[]) #[v44_8, t2]) w fun v46_18 w =>
  kV P (Instr.loadAt 119 v42_4) w fun v43_16 w =>
  kN P (callN (.func (.func 65) #[] #[]) #[v43_16, v46_18]) w fun v47_22 w =>
  pN P (nilN v39_13) fun v48_22 =>
  pV P (Instr.fieldAt 121 v48_22 1) fun v49_22 =>
  kU P (Instr.storeAt 119 v49_22 v47_22) w fun _ w =>
  J2 [] w)) ∧
  (kN P (callN (.func (.func 66) #[] #[]) #[v44_8, t2]) w fun v46_19 w =>
  kV P (Instr.loadAt 113 v11) w fun v40_5 w =>
  pN P (nilN v40_5) fun v41_5 =>
  pV P (Instr.fieldAt 121 v41_5 1) fun v42_5 =>
  kV P (Instr.loadAt 119 v42_5) w fun v43_17 w =>
  kN P (callN (.func (.func 65) #[] #[]) #[v43_17, v46_19]) w fun v47_23 w =>
  pN P (nilN v39_13) fun v48_23 =>
  pV P (Instr.fieldAt 121 v48_23 1) fun v49_23 =>
  kU P (Instr.storeAt 119 v49_23 v47_23) w fun _ w =>
  J2 [] w)) ∧
  (kV P (Instr.loadAt 113 v11) w fun v40_6 w =>
  pN P (nilN v40_6) fun v41_6 =>
  pV P (Instr.fieldAt 121 v41_6 1) fun v42_6 =>
  (kV P (Instr.loadAt 113 v11) w fun v39_14 w =>
  (kV P (Instr.loadAt 119 v42_6) w fun v43_18 w =>
  kN P (callN (.func (.func 66) #[] #[]) #[v44_8, t2]) w fun v46_20 w =>
  kN P (callN (.func (.func 65) #[] #[]) #[v43_18, v46_20]) w fun v47_24 w =>
  pN P (nilN v39_14) fun v48_24 =>
  pV P (Instr.fieldAt 121 v48_24 1) fun v49_24 =>
  kU P (Instr.storeAt 119 v49_24 v47_24) w fun _ w =>
  J2 [] w) ∧
  (kN P (callN (.func (.func 66) #[] #[]) #[v44_8, t2]) w fun v46_21 w =>
  kV P (Instr.loadAt 119 v42_6) w fun v43_19 w =>
  kN P (callN (.func (.func 65) #[] #[]) #[v43_19, v46_21]) w fun v47_25 w =>
  pN P (nilN v39_14) fun v48_25 =>
  pV P (Instr.fieldAt 121 v48_25 1) fun v49_25 =>
  kU P (Instr.storeAt 119 v49_25 v47_25) w fun _ w =>
  J2 [] w)) ∧
  (kV P (Instr.loadAt 119 v42_6) w fun v43_20 w =>
  (kV P (Instr.loadAt 113 v11) w fun v39_15 w =>
  kN P (callN (.func (.func 66) #[] #[]) #[v44_8, t2]) w fun v46_22 w =>
  kN P (callN (.func (.func 65) #[] #[]) #[v43_20, v46_22]) w fun v47_26 w =>
  pN P (nilN v39_15) fun v48_26 =>
  pV P (Instr.fieldAt 121 v48_26 1) fun v49_26 =>
  kU P (Instr.storeAt 119 v49_26 v47_26) w fun _ w =>
  J2 [] w) ∧
  (kN P (callN (.func (.func 66) #[] #[]) #[v44_8, t2]) w fun v46_23 w =>
  (kV P (Instr.loadAt 113 v11) w fun v39_16 w =>
  kN P (callN (.func (.func 65) #[] #[]) #[v43_20, v46_23]) w fun v47_27 w =>
  pN P (nilN v39_16) fun v48_27 =>
  pV P (Instr.fieldAt 121 v48_27 1) fun v49_27 =>
  kU P (Instr.storeAt 119 v49_27 v47_27) w fun _ w =>
  J2 [] w) ∧
  (kN P (callN (.func (.func 65) #[] #[]) #[v43_20, v46_23]) w fun v47_28 w =>
  kV P (Instr.loadAt 113 v11) w fun v39_17 w =>
  pN P (nilN v39_17) fun v48_28 =>
  pV P (Instr.fieldAt 121 v48_28 1) fun v49_28 =>
  kU P (Instr.storeAt 119 v49_28 v47_28) w fun _ w =>
  J2 [] w))) ∧
  (kN P (callN (.func (.func 66) #[] #[]) #[v44_8, t2]) w fun v46_24 w =>
  (kV P (Instr.loadAt 113 v11) w fun v39_18 w =>
  kV P (Instr.loadAt 119 v42_6) w fun v43_21 w =>
  kN P (callN (.func (.func 65) #[] #[]) #[v43_21, v46_24]) w fun v47_29 w =>
  pN P (nilN v39_18) fun v48_29 =>
  pV P (Instr.fieldAt 121 v48_29 1) fun v49_29 =>
  kU P (Instr.storeAt 119 v49_29 v47_29) w fun _ w =>
  J2 [] w) ∧
  (kV P (Instr.loadAt 119 v42_6) w fun v43_22 w =>
  (kV P (Instr.loadAt 113 v11) w fun v39_19 w =>
  kN P (callN (.func (.func 65) #[] #[]) #[v43_22, v46_24]) w fun v47_30 w =>
  pN P (nilN v39_19) fun v48_30 =>
  pV P (Instr.fieldAt 121 v48_30 1) fun v49_30 =>
  kU P (Instr.storeAt 119 v49_30 v47_30) w fun _ w =>
  J2 [] w) ∧
  (kN P (callN (.func (.func 65) #[] #[]) #[v43_22, v46_24]) w fun v47_31 w =>
  kV P (Instr.loadAt 113 v11) w fun v39_20 w =>
  pN P (nilN v39_20) fun v48_31 =>
  pV P (Instr.fieldAt 121 v48_31 1) fun v49_31 =>
  kU P (Instr.storeAt 119 v49_31 v47_31) w fun _ w =>
  J2 [] w)))) ∧
  (kN P (callN (.func (.func 66) #[] #[]) #[v44_8, t2]) w fun v46_25 w =>
  (kV P (Instr.loadAt 113 v11) w fun v39_21 w =>
  kV P (Instr.loadAt 113 v11) w fun v40_7 w =>
  pN P (nilN v40_7) fun v41_7 =>
  pV P (Instr.fieldAt 121 v41_7 1) fun v42_7 =>
  kV P (Instr.loadAt 119 v42_7) w fun v43_23 w =>
  kN P (callN (.func (.func 65) #[] #[]) #[v43_23, v46_25]) w fun v47_32 w =>
  pN P (nilN v39_21) fun v48_32 =>
  pV P (Instr.fieldAt 121 v48_32 1) fun v49_32 =>
  kU P (Instr.storeAt 119 v49_32 v47_32) w fun _ w =>
  J2 [] w) ∧
  (kV P (Instr.loadAt 113 v11) w fun v40_8 w =>
  pN P (nilN v40_8) fun v41_8 =>
  pV P (Instr.fieldAt 121 v41_8 1) fun v42_8 =>
  (kV P (Instr.loadAt 113 v11) w fun v39_22 w =>
  kV P (Instr.loadAt 119 v42_8) w fun v43_24 w =>
  kN P (callN (.func (.func 65) #[] #[]) #[v43_24, v46_25]) w fun v47_33 w =>
  pN P (nilN v39_22) fun v48_33 =>
  pV P (Instr.fieldAt 121 v48_33 1) fun v49_33 =>
  kU P (Instr.storeAt 119 v49_33 v47_33) w fun _ w =>
  J2 [] w) ∧
  (kV P (Instr.loadAt 119 v42_8) w fun v43_25 w =>
  (kV P (Instr.loadAt 113 v11) w fun v39_23 w =>
  kN P (callN (.func (.func 65) #[] #[]) #[v43_25, v46_25]) w fun v47_34 w =>
  pN P (nilN v39_23) fun v48_34 =>
  pV P (Instr.fieldAt 121 v48_34 1) fun v49_34 =>
  kU P (Instr.storeAt 119 v49_34 v47_34) w fun _ w =>
  J2 [] w) ∧
  (kN P (callN (.func (.func 65) #[] #[]) #[v43_25, v46_25]) w fun v47_35 w =>
  kV P (Instr.loadAt 113 v11) w fun v39_24 w =>
  pN P (nilN v39_24) fun v48_35 =>
  pV P (Instr.fieldAt 121 v48_35 1) fun v49_35 =>
  kU P (Instr.storeAt 119 v49_35 v47_35) w fun _ w =>
  J2 [] w)))))) w) fun s2 w => ∀ _ : Nat → Value,
  K (.int .i64 0) w)
theorem F36_eq (P : Program) (t0 t1 t2 t3 : Value) (w : World) (K : Value → World → Prop) : funE P ⟨[(8, 999)], [], [(5, [13]), (9, [])]⟩ Try.f36 [t0, t1, t2, t3] w K = F36 P t0 t1 t2 t3 w K := by kernel_rfl
theorem F36_ok (t0 t1 t2 t3 : Value) (w : World) (K : Value → World → Prop) (h : F36 Try.prog t0 t1 t2 t3 w K) : callsK Try.prog 36 #[t0, t1, t2, t3] w K := calls_of_eq mixedM Try.func36 (F36_eq _ t0 t1 t2 t3 w K) h

/-- mintmark/walk.place -/
def F48 (P : Program) (t0 t1 : Value) (w : World) (K : Value → World → Prop) : Prop :=
  kV P (binV .mul 23 (.tmp 5) (.const (.int .u64 4096)) t0 (.int .u64 4096)) w fun v6 w =>
  kV P (convert 3 23 t1) w fun v8 w =>
  kV P (binV .mul 23 (.tmp 8) (.const (.int .u64 8)) v8 (.int .u64 8)) w fun v9 w =>
  kV P (binV .add 23 (.tmp 6) (.tmp 9) v6 v9) w fun v10 w =>
  K v10 w
theorem F48_eq (P : Program) (t0 t1 : Value) (w : World) (K : Value → World → Prop) : funE P ⟨[], [], []⟩ Try.f48 [t0, t1] w K = F48 P t0 t1 w K := by kernel_rfl
theorem F48_ok (t0 t1 : Value) (w : World) (K : Value → World → Prop) (h : F48 Try.prog t0 t1 w K) : callsK Try.prog 48 #[t0, t1] w K := calls_of_eq mixedM Try.func48 (F48_eq _ t0 t1 w K) h

/-- mintmark/pte.Index -/
def F49 (P : Program) (t0 t1 : Value) (w : World) (K : Value → World → Prop) : Prop :=
  kV P (binV .lss 3 (.tmp 5) (.const (.int .i64 0)) t1 (.int .i64 0)) w fun v6 w =>
  joinK (fun J0 : Value → World → Prop => gdK (yb v6) false (fun k => k t1 w) w fun v8 w =>
  gdK (yb v6) false (fun k => kV P (binV .geq 3 (.tmp 8) (.const (.int .i64 3)) v8 (.int .i64 3)) w k) w fun v9 w =>
  kN P (pickN v6 (.bool true) v9) w fun v10_1 w =>
  J0 v10_1 w) fun v10 w =>
  condK v10
  (K (.int .i64 0) w)
  (kV P (binV .mul 3 (.const (.int .i64 9)) (.tmp 12) (.int .i64 9) t1) w fun v13 w =>
  kV P (binV .add 3 (.const (.int .i64 12)) (.tmp 13) (.int .i64 12) v13) w fun v14 w =>
  kN P (callN (.func (.func 52) #[] #[]) #[t0, v14, (.int .i64 9)]) w fun v15 w =>
  kV P (convert 23 3 v15) w fun v16 w =>
  K v16 w)
theorem F49_eq (P : Program) (t0 t1 : Value) (w : World) (K : Value → World → Prop) : funE P ⟨[], [], []⟩ Try.f49 [t0, t1] w K = F49 P t0 t1 w K := by kernel_rfl
theorem F49_ok (t0 t1 : Value) (w : World) (K : Value → World → Prop) (h : F49 Try.prog t0 t1 w K) : callsK Try.prog 49 #[t0, t1] w K := calls_of_eq mixedM Try.func49 (F49_eq _ t0 t1 w K) h

/-- (*mintmark/ram.Ram).Load -/
def F50 (P : Program) (t0 t1 t2 : Value) (w : World) (K : Value → World → Prop) : Prop :=
  kN P (callN (.func (.func 61) #[] #[]) #[t2]) w fun v16 w =>
  kV P (Instr.extract v16 0) w fun v17 w =>
  kV P (Instr.extract v16 1) w fun v18 w =>
  kN P (callN (.func (.func 62) #[] #[]) #[t0, t1, v17]) w fun v23 w =>
  kV P (Instr.extract v23 0) w fun v24 w =>
  kV P (Instr.extract v23 1) w fun v25 w =>
  kV P (Instr.extract v23 2) w fun v26 w =>
  kV P (Instr.alloc 113 true (.tuple #[])) w fun v10 w =>
  kV P (Instr.alloc 3 true (.tuple #[])) w fun v11 w =>
  kU P (Instr.storeAt 113 v10 v24) w fun _ w =>
  kU P (Instr.storeAt 3 v11 v25) w fun _ w =>
  joinL (fun J0 =>
  kV P (binV .eql 25 (.tmp 27) (.const (.int .i64 0)) v26 (.int .i64 0)) w fun v28 w =>
  joinK (fun J2 : Value → World → Prop => gdK (yb v28) true (fun k => k v18 w) w fun v30 w =>
  gdK (yb v28) true (fun k => kV P (Op.unary .not v30) w k) w fun v31 w =>
  kN P (pickN v28 v31 (.bool false)) w fun v32_1 w =>
  J2 v32_1 w) fun v32 w =>
  condK v32
  (J0 [(.int .i64 2)] w)
  (J0 [v26] w)) fun s0 w => ∀ _ : Nat → Value,
  kV P (binV .neq 25 (.tmp 33) (.const (.int .i64 0)) (s0.getD 0 undef) (.int .i64 0)) w fun v34 w =>
  condK v34
  (K (.tuple #[(.int .u64 0), (s0.getD 0 undef)]) w)
  (kV P (Instr.alloc 23 true (.tuple #[])) w fun v13 w =>
  kU P (Instr.storeAt 23 v13 (.int .u64 0)) w fun _ w =>
  kN P (callN (.func (.func 63) #[] #[]) #[t2, (.func (.func 72) #[] #[v13, v10, v11])]) w fun v38 w =>
  kV P (Instr.loadAt 23 v13) w fun v39 w =>
  K (.tuple #[v39, (.int .i64 0)]) w)
theorem F50_eq (P : Program) (t0 t1 t2 : Value) (w : World) (K : Value → World → Prop) : funE P ⟨[], [], [(5, [12])]⟩ Try.f50 [t0, t1, t2] w K = F50 P t0 t1 t2 w K := by kernel_rfl
theorem F50_ok (t0 t1 t2 : Value) (w : World) (K : Value → World → Prop) (h : F50 Try.prog t0 t1 t2 w K) : callsK Try.prog 50 #[t0, t1, t2] w K := calls_of_eq mixedM Try.func50 (F50_eq _ t0 t1 t2 w K) h

/-- mintmark/field.Mask -/
def F51 (P : Program) (t0 : Value) (w : World) (K : Value → World → Prop) : Prop :=
  kV P (binV .lss 3 (.tmp 4) (.const (.int .i64 1)) t0 (.int .i64 1)) w fun v5 w =>
  condK v5
  (K (.int .u64 0) w)
  (kV P (binV .geq 3 (.tmp 7) (.const (.int .i64 64)) t0 (.int .i64 64)) w fun v8 w =>
  condK v8
  (K (.int .u64 18446744073709551615) w)
  (kV P (binV .shl 23 (.const (.int .u64 1)) (.tmp 9) (.int .u64 1) t0) w fun v10 w =>
  kV P (binV .sub 23 (.tmp 10) (.const (.int .u64 1)) v10 (.int .u64 1)) w fun v11 w =>
  K v11 w))
theorem F51_eq (P : Program) (t0 : Value) (w : World) (K : Value → World → Prop) : funE P ⟨[], [], []⟩ Try.f51 [t0] w K = F51 P t0 w K := by kernel_rfl
theorem F51_ok (t0 : Value) (w : World) (K : Value → World → Prop) (h : F51 Try.prog t0 w K) : callsK Try.prog 51 #[t0] w K := calls_of_eq mixedM Try.func51 (F51_eq _ t0 w K) h

/-- mintmark/field.Get -/
def F52 (P : Program) (t0 t1 t2 : Value) (w : World) (K : Value → World → Prop) : Prop :=
  kN P (callN (.func (.func 73) #[] #[]) #[t1, t2]) w fun v9 w =>
  kV P (Op.unary .not v9) w fun v10 w =>
  condK v10
  (K (.int .u64 0) w)
  (drewK (fun w =>
  pV P (binV .shr 23 (.tmp 11) (.tmp 12) t0 t1) fun v13 =>
  kN P (callN (.func (.func 51) #[] #[]) #[t2]) w fun v15 w =>
  pV P (binV .and 23 (.tmp 13) (.tmp 15) v13 v15) fun v16 =>
  K v16 w) w)
theorem F52_eq (P : Program) (t0 t1 t2 : Value) (w : World) (K : Value → World → Prop) : funE P ⟨[(3, 999)], [], []⟩ Try.f52 [t0, t1, t2] w K = F52 P t0 t1 t2 w K := by kernel_rfl
theorem F52_ok (t0 t1 t2 : Value) (w : World) (K : Value → World → Prop) (h : F52 Try.prog t0 t1 t2 w K) : callsK Try.prog 52 #[t0, t1, t2] w K := calls_of_eq mixedM Try.func52 (F52_eq _ t0 t1 t2 w K) h

/-- (*mintmark/pte.Entry).flagsOf -/
def F53 (P : Program) (t0 : Value) (w : World) (K : Value → World → Prop) : Prop :=
  kV P (Instr.alloc 105 true (.tuple #[])) w fun v2 w =>
  drewK (fun w =>
  sN P (nilN t0) w fun v4 =>
  sV P (Instr.fieldAt 40 v4 0) w fun v5 =>
  sN P (nilN t0) w fun v7 =>
  sV P (Instr.fieldAt 40 v7 1) w fun v8 =>
  sN P (nilN t0) w fun v10 =>
  sV P (Instr.fieldAt 40 v10 2) w fun v11 =>
  sN P (nilN t0) w fun v13 =>
  sV P (Instr.fieldAt 40 v13 3) w fun v14 =>
  sN P (nilN t0) w fun v16 =>
  sV P (Instr.fieldAt 40 v16 4) w fun v17 =>
  sN P (nilN t0) w fun v19 =>
  sV P (Instr.fieldAt 40 v19 5) w fun v20 =>
  sN P (nilN t0) w fun v22 =>
  sV P (Instr.fieldAt 40 v22 6) w fun v23 =>
  sN P (nilN t0) w fun v25 =>
  sV P (Instr.fieldAt 40 v25 7) w fun v26 =>
  sN P (nilN t0) w fun v28 =>
  sV P (Instr.fieldAt 40 v28 8) w fun v29 =>
  sN P (nilN t0) w fun v31 =>
  sV P (Instr.fieldAt 40 v31 9) w fun v32 =>
  sN P (nilN t0) w fun v34 =>
  sV P (Instr.fieldAt 40 v34 10) w fun v35 =>
  sN P (nilN t0) w fun v37 =>
  sV P (Instr.fieldAt 40 v37 11) w fun v38 =>
  kV P (Instr.build 105 #[(0, v5), (1, v8), (2, v11), (3, v14), (4, v17), (5, v20), (6, v23), (7, v26), (8, v29), (9, v32), (10, v35), (11, v38)]) w fun v39 w =>
  kU P (Instr.storeAt 105 v2 v39) w fun _ w =>
  retV P 105 v2 w fun r0 =>
  K r0 w) w
theorem F53_eq (P : Program) (t0 : Value) (w : World) (K : Value → World → Prop) : funE P ⟨[(1, 36)], [], []⟩ Try.f53 [t0] w K = F53 P t0 w K := by kernel_rfl
theorem F53_ok (t0 : Value) (w : World) (K : Value → World → Prop) (h : F53 Try.prog t0 w K) : callsK Try.prog 53 #[t0] w K := calls_of_eq mixedM Try.func53 (F53_eq _ t0 w K) h

/-- mintmark/pte.places -/
def F54 (P : Program) (w : World) (K : Value → World → Prop) : Prop :=
  kV P (Instr.alloc 107 true (.tuple #[])) w fun v0 w =>
  kV P (Instr.build 107 #[(0, (.int .i64 0)), (1, (.int .i64 1)), (2, (.int .i64 2)), (3, (.int .i64 3)), (4, (.int .i64 4)), (5, (.int .i64 5)), (6, (.int .i64 6)), (7, (.int .i64 7)), (8, (.int .i64 58)), (9, (.int .i64 59)), (10, (.int .i64 60)), (11, (.int .i64 61))]) w fun v1 w =>
  kU P (Instr.storeAt 107 v0 v1) w fun _ w =>
  retV P 107 v0 w fun r0 =>
  K r0 w
theorem F54_eq (P : Program) (w : World) (K : Value → World → Prop) : funE P ⟨[], [], []⟩ Try.f54 [] w K = F54 P  w K := by kernel_rfl
theorem F54_ok (w : World) (K : Value → World → Prop) (h : F54 Try.prog  w K) : callsK Try.prog 54 #[] w K := calls_of_eq mixedM Try.func54 (F54_eq _  w K) h

/-- mintmark/field.Put -/
def F55 (P : Program) (t0 t1 t2 t3 : Value) (w : World) (K : Value → World → Prop) : Prop :=
  kN P (callN (.func (.func 73) #[] #[]) #[t1, t2]) w fun v12 w =>
  kV P (Op.unary .not v12) w fun v13 w =>
  condK v13
  (K t0 w)
  (kN P (callN (.func (.func 51) #[] #[]) #[t2]) w fun v16 w =>
  drewK (fun w =>
  sV P (binV .shl 23 (.tmp 18) (.tmp 19) v16 t1) w fun v20 =>
  sV P (binV .andNot 23 (.tmp 17) (.tmp 20) t0 v20) w fun v21 =>
  sV P (binV .and 23 (.tmp 22) (.tmp 23) t3 v16) w fun v24 =>
  sV P (binV .shl 23 (.tmp 24) (.tmp 25) v24 t1) w fun v26 =>
  sV P (binV .or 23 (.tmp 21) (.tmp 26) v21 v26) w fun v27 =>
  K v27 w) w)
theorem F55_eq (P : Program) (t0 t1 t2 t3 : Value) (w : World) (K : Value → World → Prop) : funE P ⟨[], [], []⟩ Try.f55 [t0, t1, t2, t3] w K = F55 P t0 t1 t2 t3 w K := by kernel_rfl
theorem F55_ok (t0 t1 t2 t3 : Value) (w : World) (K : Value → World → Prop) (h : F55 Try.prog t0 t1 t2 t3 w K) : callsK Try.prog 55 #[t0, t1, t2, t3] w K := calls_of_eq mixedM Try.func55 (F55_eq _ t0 t1 t2 t3 w K) h

/-- (*mintmark/ram.Ram).none -/
def F58 (P : Program) (t0 : Value) (w : World) (K : Value → World → Prop) : Prop :=
  kV P (binV .eql 24 (.tmp 3) (.const (.pointer none)) t0 (.pointer none)) w fun v4 w =>
  joinK (fun J0 : Value → World → Prop => gdK (yb v4) false (fun k => k t0 w) w fun v6 w =>
  gdK (yb v4) false (fun k => kN P (nilN v6) w k) w fun v7 w =>
  gdK (yb v4) false (fun k => kV P (Instr.fieldAt 78 v7 0) w k) w fun v8 w =>
  gdK (yb v4) false (fun k => kV P (Instr.loadAt 76 v8) w k) w fun v9 w =>
  gdK (yb v4) false (fun k => kV P (Builtin.len_ #[76] 3 #[v9]) w k) w fun v10 w =>
  gdK (yb v4) false (fun k => kV P (binV .eql 3 (.tmp 10) (.const (.int .i64 0)) v10 (.int .i64 0)) w k) w fun v11 w =>
  kN P (pickN v4 (.bool true) v11) w fun v12_1 w =>
  J0 v12_1 w) fun v12 w =>
  K v12 w
theorem F58_eq (P : Program) (t0 : Value) (w : World) (K : Value → World → Prop) : funE P ⟨[], [], []⟩ Try.f58 [t0] w K = F58 P t0 w K := by kernel_rfl
theorem F58_ok (t0 : Value) (w : World) (K : Value → World → Prop) (h : F58 Try.prog t0 w K) : callsK Try.prog 58 #[t0] w K := calls_of_eq mixedM Try.func58 (F58_eq _ t0 w K) h

/-- mintmark/ram.number -/
def F61 (P : Program) (t0 : Value) (w : World) (K : Value → World → Prop) : Prop :=
  joinL (fun J0 =>
  kV P (binV .eql 3 (.tmp 4) (.const (.int .i64 1)) t0 (.int .i64 1)) w fun v6 w =>
  condK v6
  (J0 [v6] w)
  (kV P (binV .eql 3 (.tmp 4) (.const (.int .i64 2)) t0 (.int .i64 2)) w fun v7 w =>
  condK v7
  (J0 [v7] w)
  (kV P (binV .eql 3 (.tmp 4) (.const (.int .i64 4)) t0 (.int .i64 4)) w fun v8 w =>
  condK v8
  (J0 [v8] w)
  (kV P (binV .eql 3 (.tmp 4) (.const (.int .i64 8)) t0 (.int .i64 8)) w fun v9 w =>
  J0 [v9] w)))) fun s0 w => ∀ _ : Nat → Value,
  condK (s0.getD 0 undef)
  (kV P (convert 3 23 t0) w fun v11 w =>
  K (.tuple #[v11, (.bool true)]) w)
  (K (.tuple #[(.int .u64 1), (.bool false)]) w)
theorem F61_eq (P : Program) (t0 : Value) (w : World) (K : Value → World → Prop) : funE P ⟨[], [], [(6, [5])]⟩ Try.f61 [t0] w K = F61 P t0 w K := by kernel_rfl
theorem F61_ok (t0 : Value) (w : World) (K : Value → World → Prop) (h : F61 Try.prog t0 w K) : callsK Try.prog 61 #[t0] w K := calls_of_eq mixedM Try.func61 (F61_eq _ t0 w K) h

/-- (*mintmark/ram.Ram).place -/
def F62 (P : Program) (t0 t1 t2 : Value) (w : World) (K : Value → World → Prop) : Prop :=
  kN P (callN (.func (.func 58) #[] #[]) #[t0]) w fun v11 w =>
  condK v11
  (K (.tuple #[(.pointer none), (.int .i64 0), (.int .i64 1)]) w)
  (kV P (binV .rem 23 (.tmp 13) (.tmp 14) t1 t2) w fun v15 w =>
  kV P (binV .neq 23 (.tmp 15) (.const (.int .u64 0)) v15 (.int .u64 0)) w fun v16 w =>
  joinK (fun J0 : Value → World → Prop => gdK (yb v16) false (fun k => k t1 w) w fun v18 w =>
  gdK (yb v16) false (fun k => kV P (binV .quo 23 (.tmp 18) (.const (.int .u64 4096)) v18 (.int .u64 4096)) w k) w fun v19 w =>
  gdK (yb v16) false (fun k => k t0 w) w fun v20 w =>
  gdK (yb v16) false (fun k => kN P (nilN v20) w k) w fun v21 w =>
  gdK (yb v16) false (fun k => kV P (Instr.fieldAt 78 v21 0) w k) w fun v22 w =>
  gdK (yb v16) false (fun k => kV P (Instr.loadAt 76 v22) w k) w fun v23 w =>
  gdK (yb v16) false (fun k => kV P (Builtin.len_ #[76] 3 #[v23]) w k) w fun v24 w =>
  gdK (yb v16) false (fun k => kV P (convert 3 23 v24) w k) w fun v25 w =>
  gdK (yb v16) false (fun k => kV P (binV .geq 23 (.tmp 19) (.tmp 25) v19 v25) w k) w fun v26 w =>
  kN P (pickN v16 (.bool true) v26) w fun v27_1 w =>
  J0 v27_1 w) fun v27 w =>
  condK v27
  (K (.tuple #[(.pointer none), (.int .i64 0), (.int .i64 2)]) w)
  (kN P (nilN t0) w fun v29 w =>
  kV P (Instr.fieldAt 78 v29 0) w fun v30 w =>
  kV P (Instr.loadAt 76 v30) w fun v31 w =>
  kV P (binV .quo 23 (.tmp 32) (.const (.int .u64 4096)) t1 (.int .u64 4096)) w fun v33 w =>
  kV P (Instr.indexAt 76 v31 v33) w fun v34 w =>
  kV P (binV .rem 23 (.tmp 35) (.const (.int .u64 4096)) t1 (.int .u64 4096)) w fun v36 w =>
  kV P (convert 23 3 v36) w fun v37 w =>
  K (.tuple #[v34, v37, (.int .i64 0)]) w))
theorem F62_eq (P : Program) (t0 t1 t2 : Value) (w : World) (K : Value → World → Prop) : funE P ⟨[], [], []⟩ Try.f62 [t0, t1, t2] w K = F62 P t0 t1 t2 w K := by kernel_rfl
theorem F62_ok (t0 t1 t2 : Value) (w : World) (K : Value → World → Prop) (h : F62 Try.prog t0 t1 t2 w K) : callsK Try.prog 62 #[t0, t1, t2] w K := calls_of_eq mixedM Try.func62 (F62_eq _ t0 t1 t2 w K) h

/-- mintmark/ram.each -/
def F63 (P : Program) (t0 t1 : Value) (w : World) (K : Value → World → Prop) : Prop :=
  loopT (fun R0 s0 w => ∀ _ : Nat → Value,
  kV P (binV .lss 3 (.tmp 6) (.tmp 5) (s0.getD 0 undef) t0) w fun v7 w =>
  condK v7
  (kN P (callN t1 #[(s0.getD 0 undef)]) w fun v11 w =>
  kV P (binV .add 3 (.tmp 6) (.const (.int .i64 1)) (s0.getD 0 undef) (.int .i64 1)) w fun v12 w =>
  R0 [v12] w)
  (K (.tuple #[]) w)) [(.int .i64 0)] w
theorem F63_eq (P : Program) (t0 t1 : Value) (w : World) (K : Value → World → Prop) : funE P ⟨[], [(1, [6])], []⟩ Try.f63 [t0, t1] w K = F63 P t0 t1 w K := by kernel_rfl
theorem F63_ok (t0 t1 : Value) (w : World) (K : Value → World → Prop) (h : F63 Try.prog t0 t1 w K) : callsK Try.prog 63 #[t0, t1] w K := calls_of_eq mixedM Try.func63 (F63_eq _ t0 t1 w K) h

/-- (*mintmark/ram.Ram).Store$1 -/
def F64 (P : Program) (t0 t1 t2 t3 : Value) (w : World) (K : Value → World → Prop) : Prop :=
  drewK (fun w =>
  sV P (Instr.loadAt 113 t2) w fun v5 =>
  sV P (Instr.loadAt 3 t3) w fun v6 =>
  sV P (binV .add 3 (.tmp 6) (.tmp 7) v6 t0) w fun v8 =>
  sV P (Instr.loadAt 23 t1) w fun v9 =>
  sV P (binV .mul 3 (.const (.int .i64 8)) (.tmp 10) (.int .i64 8) t0) w fun v11 =>
  sV P (binV .shr 23 (.tmp 9) (.tmp 11) v9 v11) w fun v12 =>
  sV P (convert 23 5 v12) w fun v13 =>
  sN P (nilN v5) w fun v14 =>
  sV P (Instr.fieldAt 121 v14 0) w fun v15 =>
  kV P (Instr.indexAt 117 v15 v8) w fun v16 w =>
  kU P (Instr.storeAt 5 v16 v13) w fun _ w =>
  K (.tuple #[]) w) w
theorem F64_eq (P : Program) (t0 t1 t2 t3 : Value) (w : World) (K : Value → World → Prop) : funE P ⟨[(0, 11)], [], []⟩ Try.f64 [t0, t1, t2, t3] w K = F64 P t0 t1 t2 t3 w K := by kernel_rfl
theorem F64_ok (t0 t1 t2 t3 : Value) (w : World) (K : Value → World → Prop) (h : F64 Try.prog t0 t1 t2 t3 w K) : callsK Try.prog 64 #[t0, t1, t2, t3] w K := calls_of_eq mixedM Try.func64 (F64_eq _ t0 t1 t2 t3 w K) h

/-- (mintmark/tags.Set).Without -/
def F65 (P : Program) (t0 t1 : Value) (w : World) (K : Value → World → Prop) : Prop :=
  kV P (Instr.box 119 t0) w fun v2 w =>
  kV P (Instr.box 119 t1) w fun v3 w =>
  kV P (Instr.alloc 119 true (.tuple #[])) w fun v4 w =>
  loopT (fun R0 s0 w => ∀ _ : Nat → Value,
  kV P (binV .lss 3 (.tmp 6) (.const (.int .i64 4)) (s0.getD 0 undef) (.int .i64 4)) w fun v7 w =>
  condK v7
  (drewK (fun w =>
  sV P (Instr.indexAt 119 v2 (s0.getD 0 undef)) w fun v10 =>
  sV P (Instr.loadAt 23 v10) w fun v11 =>
  sV P (Instr.indexAt 119 v3 (s0.getD 0 undef)) w fun v13 =>
  sV P (Instr.loadAt 23 v13) w fun v14 =>
  kV P (binV .andNot 23 (.tmp 11) (.tmp 14) v11 v14) w fun v15 w =>
  kV P (Instr.indexAt 119 v2 (s0.getD 0 undef)) w fun v16 w =>
  kU P (Instr.storeAt 23 v16 v15) w fun _ w =>
  kV P (binV .add 3 (.tmp 6) (.const (.int .i64 1)) (s0.getD 0 undef) (.int .i64 1)) w fun v17 w =>
  R0 [v17] w) w)
  (kV P (Instr.loadAt 119 v2) w fun v18 w =>
  kU P (Instr.storeAt 119 v4 v18) w fun _ w =>
  retV P 119 v4 w fun r2 =>
  K r2 w)) [(.int .i64 0)] w
theorem F65_eq (P : Program) (t0 t1 : Value) (w : World) (K : Value → World → Prop) : funE P ⟨[(4, 6)], [(2, [6])], []⟩ Try.f65 [t0, t1] w K = F65 P t0 t1 w K := by kernel_rfl
theorem F65_ok (t0 t1 : Value) (w : World) (K : Value → World → Prop) (h : F65 Try.prog t0 t1 w K) : callsK Try.prog 65 #[t0, t1] w K := calls_of_eq mixedM Try.func65 (F65_eq _ t0 t1 w K) h

/-- mintmark/tags.Cover -/
def F66 (P : Program) (t0 t1 : Value) (w : World) (K : Value → World → Prop) : Prop :=
  kV P (Instr.alloc 119 true (.tuple #[])) w fun v4 w =>
  kV P (Instr.alloc 119 true (.tuple #[])) w fun v5 w =>
  kV P (binV .lss 3 (.tmp 8) (.const (.int .i64 1)) t1 (.int .i64 1)) w fun v9 w =>
  joinK (fun J0 : Value → World → Prop => gdK (yb v9) false (fun k => k t0 w) w fun v11 w =>
  gdK (yb v9) false (fun k => kV P (binV .geq 3 (.tmp 11) (.const (.int .i64 4096)) v11 (.int .i64 4096)) w k) w fun v12 w =>
  kN P (pickN v9 (.bool true) v12) w fun v13_1 w =>
  J0 v13_1 w) fun v13 w =>
  condK v13
  (kV P (Instr.loadAt 119 v5) w fun v14 w =>
  kU P (Instr.storeAt 119 v4 v14) w fun _ w =>
  retV P 119 v4 w fun r1 =>
  K r1 w)
  (joinL (fun J2 =>
  kV P (binV .lss 3 (.tmp 15) (.const (.int .i64 0)) t0 (.int .i64 0)) w fun v16 w =>
  condK v16
  (kV P (binV .lss 3 (.tmp 17) (.const (.int .i64 (-4096))) t0 (.int .i64 (-4096))) w fun v18 w =>
  joinK (fun J8 : Value → World → Prop => gdK (yb v18) true (fun k => k t0 w) w fun v20 w =>
  gdK (yb v18) true (fun k => k t1 w) w fun v21 w =>
  gdK (yb v18) true (fun k => kV P (binV .add 3 (.tmp 20) (.tmp 21) v20 v21) w k) w fun v22 w =>
  gdK (yb v18) true (fun k => kV P (binV .leq 3 (.tmp 22) (.const (.int .i64 0)) v22 (.int .i64 0)) w k) w fun v23 w =>
  kN P (pickN v18 v23 (.bool false)) w fun v24_1 w =>
  J8 v24_1 w) fun v24 w =>
  joinK (fun J9 : Value → World → Prop => gdK (yb v24) false (fun k => k t1 w) w fun v26 w =>
  gdK (yb v24) false (fun k => k t0 w) w fun v27 w =>
  gdK (yb v24) false (fun k => kV P (Op.unary .neg v27) w k) w fun v28 w =>
  gdK (yb v24) false (fun k => kV P (binV .leq 3 (.tmp 26) (.tmp 28) v26 v28) w k) w fun v29 w =>
  kN P (pickN v24 (.bool true) v29) w fun v30_1 w =>
  J9 v30_1 w) fun v30 w =>
  condK v30
  (kV P (Instr.loadAt 119 v5) w fun v31 w =>
  kU P (Instr.storeAt 119 v4 v31) w fun _ w =>
  retV P 119 v4 w fun r10 =>
  K r10 w)
  (kV P (binV .add 3 (.tmp 32) (.tmp 33) t1 t0) w fun v34 w =>
  J2 [(.int .i64 0), v34] w))
  (J2 [t0, t1] w)) fun s2 w => ∀ _ : Nat → Value,
  kV P (binV .sub 3 (.const (.int .i64 4096)) (.tmp 37) (.int .i64 4096) (s2.getD 0 undef)) w fun v38 w =>
  kV P (Builtin.min_ #[3, 3] 3 #[(s2.getD 1 undef), v38]) w fun v39 w =>
  kV P (binV .add 3 (.tmp 35) (.tmp 39) (s2.getD 0 undef) v39) w fun v40 w =>
  kV P (binV .sub 3 (.tmp 40) (.const (.int .i64 1)) v40 (.int .i64 1)) w fun v41 w =>
  loopT (fun R4 s4 w => ∀ _ : Nat → Value,
  kV P (binV .lss 3 (.tmp 42) (.const (.int .i64 256)) (s4.getD 0 undef) (.int .i64 256)) w fun v43 w =>
  condK v43
  (kV P (Instr.loadAt 119 v5) w fun v45 w =>
  kV P (binV .quo 3 (.tmp 48) (.const (.int .i64 16)) (s2.getD 0 undef) (.int .i64 16)) w fun v49 w =>
  kV P (binV .geq 3 (.tmp 47) (.tmp 49) (s4.getD 0 undef) v49) w fun v50 w =>
  joinK (fun J6 : Value → World → Prop => gdK (yb v50) true (fun k => k (s4.getD 0 undef) w) w fun v52 w =>
  gdK (yb v50) true (fun k => k v41 w) w fun v53 w =>
  gdK (yb v50) true (fun k => kV P (binV .quo 3 (.tmp 53) (.const (.int .i64 16)) v53 (.int .i64 16)) w k) w fun v54 w =>
  gdK (yb v50) true (fun k => kV P (binV .leq 3 (.tmp 52) (.tmp 54) v52 v54) w k) w fun v55 w =>
  kN P (pickN v50 v55 (.bool false)) w fun v56_1 w =>
  J6 v56_1 w) fun v56 w =>
  kN P (callN (.func (.func 77) #[] #[]) #[v45, (s4.getD 0 undef), v56]) w fun v57 w =>
  kU P (Instr.storeAt 119 v5 v57) w fun _ w =>
  kV P (binV .add 3 (.tmp 42) (.const (.int .i64 1)) (s4.getD 0 undef) (.int .i64 1)) w fun v58 w =>
  R4 [v58] w)
  (kV P (Instr.loadAt 119 v5) w fun v59 w =>
  kU P (Instr.storeAt 119 v4 v59) w fun _ w =>
  retV P 119 v4 w fun r7 =>
  K r7 w)) [(.int .i64 0)] w)
theorem F66_eq (P : Program) (t0 t1 : Value) (w : World) (K : Value → World → Prop) : funE P ⟨[], [(10, [42])], [(8, [0, 1])]⟩ Try.f66 [t0, t1] w K = F66 P t0 t1 w K := by kernel_rfl
theorem F66_ok (t0 t1 : Value) (w : World) (K : Value → World → Prop) (h : F66 Try.prog t0 t1 w K) : callsK Try.prog 66 #[t0, t1] w K := calls_of_eq mixedM Try.func66 (F66_eq _ t0 t1 w K) h

/-- (*mintmark/ram.Ram).Load$1 -/
def F72 (P : Program) (t0 t1 t2 t3 : Value) (w : World) (K : Value → World → Prop) : Prop :=
  drewK (fun w =>
  sV P (Instr.loadAt 23 t1) w fun v5 =>
  sV P (Instr.loadAt 113 t2) w fun v6 =>
  sV P (Instr.loadAt 3 t3) w fun v7 =>
  sV P (binV .add 3 (.tmp 7) (.tmp 8) v7 t0) w fun v9 =>
  sN P (nilN v6) w fun v10 =>
  sV P (Instr.fieldAt 121 v10 0) w fun v11 =>
  sV P (Instr.indexAt 117 v11 v9) w fun v12 =>
  sV P (Instr.loadAt 5 v12) w fun v13 =>
  sV P (convert 5 23 v13) w fun v14 =>
  sV P (binV .mul 3 (.const (.int .i64 8)) (.tmp 15) (.int .i64 8) t0) w fun v16 =>
  sV P (binV .shl 23 (.tmp 14) (.tmp 16) v14 v16) w fun v17 =>
  kV P (binV .or 23 (.tmp 5) (.tmp 17) v5 v17) w fun v18 w =>
  kU P (Instr.storeAt 23 t1 v18) w fun _ w =>
  K (.tuple #[]) w) w
theorem F72_eq (P : Program) (t0 t1 t2 t3 : Value) (w : World) (K : Value → World → Prop) : funE P ⟨[(0, 13)], [], []⟩ Try.f72 [t0, t1, t2, t3] w K = F72 P t0 t1 t2 t3 w K := by kernel_rfl
theorem F72_ok (t0 t1 t2 t3 : Value) (w : World) (K : Value → World → Prop) (h : F72 Try.prog t0 t1 t2 t3 w K) : callsK Try.prog 72 #[t0, t1, t2, t3] w K := calls_of_eq mixedM Try.func72 (F72_eq _ t0 t1 t2 t3 w K) h

/-- mintmark/field.may -/
def F73 (P : Program) (t0 t1 : Value) (w : World) (K : Value → World → Prop) : Prop :=
  kV P (binV .geq 3 (.tmp 5) (.const (.int .i64 0)) t1 (.int .i64 0)) w fun v6 w =>
  joinK (fun J0 : Value → World → Prop => gdK (yb v6) true (fun k => k t1 w) w fun v8 w =>
  gdK (yb v6) true (fun k => kV P (binV .leq 3 (.tmp 8) (.const (.int .i64 64)) v8 (.int .i64 64)) w k) w fun v9 w =>
  kN P (pickN v6 v9 (.bool false)) w fun v10_1 w =>
  J0 v10_1 w) fun v10 w =>
  joinK (fun J1 : Value → World → Prop => gdK (yb v10) true (fun k => k t0 w) w fun v12 w =>
  gdK (yb v10) true (fun k => kV P (binV .geq 3 (.tmp 12) (.const (.int .i64 0)) v12 (.int .i64 0)) w k) w fun v13 w =>
  kN P (pickN v10 v13 (.bool false)) w fun v14_1 w =>
  J1 v14_1 w) fun v14 w =>
  joinK (fun J2 : Value → World → Prop => gdK (yb v14) true (fun k => k t0 w) w fun v16 w =>
  gdK (yb v14) true (fun k => k t1 w) w fun v17 w =>
  gdK (yb v14) true (fun k => kV P (binV .sub 3 (.const (.int .i64 64)) (.tmp 17) (.int .i64 64) v17) w k) w fun v18 w =>
  gdK (yb v14) true (fun k => kV P (binV .leq 3 (.tmp 16) (.tmp 18) v16 v18) w k) w fun v19 w =>
  kN P (pickN v14 v19 (.bool false)) w fun v20_1 w =>
  J2 v20_1 w) fun v20 w =>
  K v20 w
theorem F73_eq (P : Program) (t0 t1 : Value) (w : World) (K : Value → World → Prop) : funE P ⟨[], [], []⟩ Try.f73 [t0, t1] w K = F73 P t0 t1 w K := by kernel_rfl
theorem F73_ok (t0 t1 : Value) (w : World) (K : Value → World → Prop) (h : F73 Try.prog t0 t1 w K) : callsK Try.prog 73 #[t0, t1] w K := calls_of_eq mixedM Try.func73 (F73_eq _ t0 t1 w K) h

/-- (mintmark/tags.Set).With -/
def F77 (P : Program) (t0 t1 t2 : Value) (w : World) (K : Value → World → Prop) : Prop :=
  kV P (Instr.box 119 t0) w fun v3 w =>
  kV P (Instr.alloc 119 true (.tuple #[])) w fun v6 w =>
  kN P (callN (.func (.func 82) #[] #[]) #[t1]) w fun v9 w =>
  kV P (Op.unary .not v9) w fun v10 w =>
  condK v10
  (kV P (Instr.loadAt 119 v3) w fun v11 w =>
  kU P (Instr.storeAt 119 v6 v11) w fun _ w =>
  retV P 119 v6 w fun r0 =>
  K r0 w)
  (kV P (binV .rem 3 (.tmp 12) (.const (.int .i64 64)) t1 (.int .i64 64)) w fun v13 w =>
  kV P (binV .shl 23 (.const (.int .u64 1)) (.tmp 13) (.int .u64 1) v13) w fun v14 w =>
  joinL (fun J1 =>
  condK t2
  (kV P (binV .quo 3 (.tmp 16) (.const (.int .i64 64)) t1 (.int .i64 64)) w fun v17 w =>
  kV P (Instr.indexAt 119 v3 v17) w fun v18 w =>
  kV P (Instr.loadAt 23 v18) w fun v19 w =>
  kV P (binV .or 23 (.tmp 19) (.tmp 20) v19 v14) w fun v21 w =>
  kV P (Instr.indexAt 119 v3 v17) w fun v22 w =>
  kU P (Instr.storeAt 23 v22 v21) w fun _ w =>
  J1 [] w)
  (kV P (binV .quo 3 (.tmp 23) (.const (.int .i64 64)) t1 (.int .i64 64)) w fun v24 w =>
  kV P (Instr.indexAt 119 v3 v24) w fun v25 w =>
  kV P (Instr.loadAt 23 v25) w fun v26 w =>
  kV P (binV .andNot 23 (.tmp 26) (.tmp 27) v26 v14) w fun v28 w =>
  kV P (Instr.indexAt 119 v3 v24) w fun v29 w =>
  kU P (Instr.storeAt 23 v29 v28) w fun _ w =>
  J1 [] w)) fun s1 w => ∀ _ : Nat → Value,
  kV P (Instr.loadAt 119 v3) w fun v30 w =>
  kU P (Instr.storeAt 119 v6 v30) w fun _ w =>
  retV P 119 v6 w fun r3 =>
  K r3 w)
theorem F77_eq (P : Program) (t0 t1 t2 : Value) (w : World) (K : Value → World → Prop) : funE P ⟨[], [], [(7, [])]⟩ Try.f77 [t0, t1, t2] w K = F77 P t0 t1 t2 w K := by kernel_rfl
theorem F77_ok (t0 t1 t2 : Value) (w : World) (K : Value → World → Prop) (h : F77 Try.prog t0 t1 t2 w K) : callsK Try.prog 77 #[t0, t1, t2] w K := calls_of_eq mixedM Try.func77 (F77_eq _ t0 t1 t2 w K) h

/-- mintmark/tags.is -/
def F82 (P : Program) (t0 : Value) (w : World) (K : Value → World → Prop) : Prop :=
  kV P (binV .geq 3 (.tmp 3) (.const (.int .i64 0)) t0 (.int .i64 0)) w fun v4 w =>
  joinK (fun J0 : Value → World → Prop => gdK (yb v4) true (fun k => k t0 w) w fun v6 w =>
  gdK (yb v4) true (fun k => kV P (binV .lss 3 (.tmp 6) (.const (.int .i64 256)) v6 (.int .i64 256)) w k) w fun v7 w =>
  kN P (pickN v4 v7 (.bool false)) w fun v8_1 w =>
  J0 v8_1 w) fun v8 w =>
  K v8 w
theorem F82_eq (P : Program) (t0 : Value) (w : World) (K : Value → World → Prop) : funE P ⟨[], [], []⟩ Try.f82 [t0] w K = F82 P t0 w K := by kernel_rfl
theorem F82_ok (t0 : Value) (w : World) (K : Value → World → Prop) (h : F82 Try.prog t0 w K) : callsK Try.prog 82 #[t0] w K := calls_of_eq mixedM Try.func82 (F82_eq _ t0 w K) h

end Go.Proofs.Ytfpcflmgipklcaa
