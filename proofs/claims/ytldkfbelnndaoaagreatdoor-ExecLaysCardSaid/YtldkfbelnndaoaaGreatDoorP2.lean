/- Part 2 of what the law ExecLays stands on: formulas of the functions that it reaches, and what each of them does; conditions: those of each theorem. -/
import Derived.Test.YtldkfbelnndaoaaGreatDoorP1
set_option linter.unusedVariables false
set_option linter.unusedSimpArgs false
namespace Go.Proofs.YtldkfbelnndaoaaGreatDoor
open Go.Fx
set_option maxRecDepth 100000
theorem mixedC : Tryz.prog.follows .mixedOrders = true := by kernel_rfl
section
variable (P : Program) (w : World) (K : Value -> World -> Prop)
def F51 (t0 t1 t2 : Value) : Prop :=
 kV P (binV .lss 3 (.tmp 8) (.const (.int .i64 1)) t1 (.int .i64 1)) w fun v9 w =>
 joinK (fun J0 : Value -> World -> Prop => gdK (yb v9) false (fun k => k t1 w) w fun v11 w =>
 gdK (yb v9) false (fun k => kV P (binV .gtr 3 (.tmp 11) (.const (.int .i64 64)) v11 (.int .i64 64)) w k) w fun v12 w =>
 kN P (pickN v9 (.bool true) v12) w fun v13_1 w =>
 J0 v13_1 w) fun v13 w =>
 condK v13
 (K (.bool false) w)
 (condK t2
 (kV P (convert 2 35 t0) w fun v17 w =>
 kN P (callN (.func (.func 99) #[] #[]) #[v17, t1]) w fun v19 w =>
 kV P (convert 2 35 t0) w fun v21 w =>
 kV P (binV .eql 35 (.tmp 19) (.tmp 21) v19 v21) w fun v22 w =>
 K v22 w)
 (kV P (binV .geq 2 (.tmp 23) (.const (.int .i64 0)) t0 (.int .i64 0)) w fun v24 w =>
 joinK (fun J1 : Value -> World -> Prop => gdK (yb v24) true (fun k => k t0 w) w fun v26 w =>
 gdK (yb v24) true (fun k => kV P (convert 2 35 v26) w k) w fun v27 w =>
 gdK (yb v24) true (fun k => k t1 w) w fun v28 w =>
 gdK (yb v24) true (fun k => kN P (callN (.func (.func 97) #[] #[]) #[v28]) w k) w fun v29 w =>
 gdK (yb v24) true (fun k => kV P (binV .andNot 35 (.tmp 27) (.tmp 29) v27 v29) w k) w fun v30 w =>
 gdK (yb v24) true (fun k => kV P (binV .eql 35 (.tmp 30) (.const (.int .u64 0)) v30 (.int .u64 0)) w k) w fun v31 w =>
 kN P (pickN v24 v31 (.bool false)) w fun v32_1 w =>
 J1 v32_1 w) fun v32 w =>
 K v32 w))
theorem F51_eq (t0 t1 t2 : Value) : funE P ⟨[], [], []⟩ Tryz.f51 [t0, t1, t2] w K = F51 P w K t0 t1 t2 := by kernel_rfl
theorem F51_ok (t0 t1 t2 : Value) (h : F51 Tryz.prog w K t0 t1 t2) : callsK Tryz.prog 51 #[t0, t1, t2] w K := calls_of_eq mixedC Tryz.func51 (F51_eq _ w K t0 t1 t2) h
def F52 (t0 t1 t2 t3 : Value) : Prop :=
 kN P (callN (.func (.func 100) #[] #[]) #[t1, t2]) w fun v12 w =>
 kV P (Op.unary .not v12) w fun v13 w =>
 condK v13
 (K t0 w)
 (kN P (callN (.func (.func 97) #[] #[]) #[t2]) w fun v16 w =>
 drewK (fun w =>
 sV P (binV .shl 35 (.tmp 18) (.tmp 19) v16 t1) w fun v20 =>
 sV P (binV .andNot 35 (.tmp 17) (.tmp 20) t0 v20) w fun v21 =>
 sV P (binV .and 35 (.tmp 22) (.tmp 23) t3 v16) w fun v24 =>
 sV P (binV .shl 35 (.tmp 24) (.tmp 25) v24 t1) w fun v26 =>
 sV P (binV .or 35 (.tmp 21) (.tmp 26) v21 v26) w fun v27 =>
 K v27 w) w)
theorem F52_eq (t0 t1 t2 t3 : Value) : funE P ⟨[], [], []⟩ Tryz.f52 [t0, t1, t2, t3] w K = F52 P w K t0 t1 t2 t3 := by kernel_rfl
theorem F52_ok (t0 t1 t2 t3 : Value) (h : F52 Tryz.prog w K t0 t1 t2 t3) : callsK Tryz.prog 52 #[t0, t1, t2, t3] w K := calls_of_eq mixedC Tryz.func52 (F52_eq _ w K t0 t1 t2 t3) h
def F73 (t0 t1 t2 : Value) : Prop :=
 kN P (callN (.func (.func 100) #[] #[]) #[t1, t2]) w fun v9 w =>
 kV P (Op.unary .not v9) w fun v10 w =>
 condK v10
 (K (.int .u64 0) w)
 (drewK (fun w =>
 pV P (binV .shr 35 (.tmp 11) (.tmp 12) t0 t1) fun v13 =>
 kN P (callN (.func (.func 97) #[] #[]) #[t2]) w fun v15 w =>
 pV P (binV .and 35 (.tmp 13) (.tmp 15) v13 v15) fun v16 =>
 K v16 w) w)
theorem F73_eq (t0 t1 t2 : Value) : funE P ⟨[(3, 999)], [], []⟩ Tryz.f73 [t0, t1, t2] w K = F73 P w K t0 t1 t2 := by kernel_rfl
theorem F73_ok (t0 t1 t2 : Value) (h : F73 Tryz.prog w K t0 t1 t2) : callsK Tryz.prog 73 #[t0, t1, t2] w K := calls_of_eq mixedC Tryz.func73 (F73_eq _ w K t0 t1 t2) h
def F97 (t0 : Value) : Prop :=
 kV P (binV .lss 3 (.tmp 4) (.const (.int .i64 1)) t0 (.int .i64 1)) w fun v5 w =>
 condK v5
 (K (.int .u64 0) w)
 (kV P (binV .geq 3 (.tmp 7) (.const (.int .i64 64)) t0 (.int .i64 64)) w fun v8 w =>
 condK v8
 (K (.int .u64 18446744073709551615) w)
 (kV P (binV .shl 35 (.const (.int .u64 1)) (.tmp 9) (.int .u64 1) t0) w fun v10 w =>
 kV P (binV .sub 35 (.tmp 10) (.const (.int .u64 1)) v10 (.int .u64 1)) w fun v11 w =>
 K v11 w))
theorem F97_eq (t0 : Value) : funE P ⟨[], [], []⟩ Tryz.f97 [t0] w K = F97 P w K t0 := by kernel_rfl
theorem F97_ok (t0 : Value) (h : F97 Tryz.prog w K t0) : callsK Tryz.prog 97 #[t0] w K := calls_of_eq mixedC Tryz.func97 (F97_eq _ w K t0) h
def F99 (t0 t1 : Value) : Prop :=
 kV P (binV .lss 3 (.tmp 6) (.const (.int .i64 1)) t1 (.int .i64 1)) w fun v7 w =>
 joinK (fun J0 : Value -> World -> Prop => gdK (yb v7) false (fun k => k t1 w) w fun v9 w =>
 gdK (yb v7) false (fun k => kV P (binV .gtr 3 (.tmp 9) (.const (.int .i64 64)) v9 (.int .i64 64)) w k) w fun v10 w =>
 kN P (pickN v7 (.bool true) v10) w fun v11_1 w =>
 J0 v11_1 w) fun v11 w =>
 condK v11
 (K (.int .u64 0) w)
 (kV P (binV .sub 3 (.const (.int .i64 64)) (.tmp 12) (.int .i64 64) t1) w fun v13 w =>
 kV P (binV .shl 35 (.tmp 14) (.tmp 15) t0 v13) w fun v16 w =>
 kV P (convert 35 2 v16) w fun v17 w =>
 kV P (binV .shr 2 (.tmp 17) (.tmp 18) v17 v13) w fun v19 w =>
 kV P (convert 2 35 v19) w fun v20 w =>
 K v20 w)
theorem F99_eq (t0 t1 : Value) : funE P ⟨[], [], []⟩ Tryz.f99 [t0, t1] w K = F99 P w K t0 t1 := by kernel_rfl
theorem F99_ok (t0 t1 : Value) (h : F99 Tryz.prog w K t0 t1) : callsK Tryz.prog 99 #[t0, t1] w K := calls_of_eq mixedC Tryz.func99 (F99_eq _ w K t0 t1) h
def F100 (t0 t1 : Value) : Prop :=
 kV P (binV .geq 3 (.tmp 5) (.const (.int .i64 0)) t1 (.int .i64 0)) w fun v6 w =>
 joinK (fun J0 : Value -> World -> Prop => gdK (yb v6) true (fun k => k t1 w) w fun v8 w =>
 gdK (yb v6) true (fun k => kV P (binV .leq 3 (.tmp 8) (.const (.int .i64 64)) v8 (.int .i64 64)) w k) w fun v9 w =>
 kN P (pickN v6 v9 (.bool false)) w fun v10_1 w =>
 J0 v10_1 w) fun v10 w =>
 joinK (fun J1 : Value -> World -> Prop => gdK (yb v10) true (fun k => k t0 w) w fun v12 w =>
 gdK (yb v10) true (fun k => kV P (binV .geq 3 (.tmp 12) (.const (.int .i64 0)) v12 (.int .i64 0)) w k) w fun v13 w =>
 kN P (pickN v10 v13 (.bool false)) w fun v14_1 w =>
 J1 v14_1 w) fun v14 w =>
 joinK (fun J2 : Value -> World -> Prop => gdK (yb v14) true (fun k => k t0 w) w fun v16 w =>
 gdK (yb v14) true (fun k => k t1 w) w fun v17 w =>
 gdK (yb v14) true (fun k => kV P (binV .sub 3 (.const (.int .i64 64)) (.tmp 17) (.int .i64 64) v17) w k) w fun v18 w =>
 gdK (yb v14) true (fun k => kV P (binV .leq 3 (.tmp 16) (.tmp 18) v16 v18) w k) w fun v19 w =>
 kN P (pickN v14 v19 (.bool false)) w fun v20_1 w =>
 J2 v20_1 w) fun v20 w =>
 K v20 w
theorem F100_eq (t0 t1 : Value) : funE P ⟨[], [], []⟩ Tryz.f100 [t0, t1] w K = F100 P w K t0 t1 := by kernel_rfl
theorem F100_ok (t0 t1 : Value) (h : F100 Tryz.prog w K t0 t1) : callsK Tryz.prog 100 #[t0, t1] w K := calls_of_eq mixedC Tryz.func100 (F100_eq _ w K t0 t1) h
def F105 (t0 : Value) : Prop :=
 kV P (Instr.box 37 t0) w fun v1 w =>
 kV P (Instr.alloc 160 true (.tuple #[])) w fun v2 w =>
 joinL (fun J0 =>
 drewK (fun w =>
 pV P (Instr.fieldAt 37 v1 1) fun v7 =>
 pV P (Instr.fieldAt 37 v1 2) fun v10 =>
 (kV P (Instr.loadAt 35 v7) w fun v8 w =>
 (kN P (callN (.func (.func 137) #[] #[]) #[v8]) w fun v9 w =>
 (kV P (Instr.loadAt 35 v10) w fun v11 w =>
 (kN P (callN (.func (.func 136) #[] #[]) #[v9, v11]) w fun v12 w =>
 pV P (Instr.extract v12 0) fun v13 =>
 pV P (Instr.extract v12 1) fun v14 =>
 kV P (Instr.alloc 158 true (.tuple #[])) w fun v4 w =>
 kU P (Instr.storeAt 158 v4 v13) w fun _ w =>
 J0 [v4, v14] w) /\
 (kV P (Instr.alloc 158 true (.tuple #[])) w fun v4_1 w =>
 kN P (callN (.func (.func 136) #[] #[]) #[v9, v11]) w fun v12_1 w =>
 pV P (Instr.extract v12_1 0) fun v13_1 =>
 pV P (Instr.extract v12_1 1) fun v14_1 =>
 kU P (Instr.storeAt 158 v4_1 v13_1) w fun _ w =>
 J0 [v4_1, v14_1] w)) /\
 (kV P (Instr.alloc 158 true (.tuple #[])) w fun v4_2 w =>
 kV P (Instr.loadAt 35 v10) w fun v11_1 w =>
 kN P (callN (.func (.func 136) #[] #[]) #[v9, v11_1]) w fun v12_2 w =>
 pV P (Instr.extract v12_2 0) fun v13_2 =>
 pV P (Instr.extract v12_2 1) fun v14_2 =>
 kU P (Instr.storeAt 158 v4_2 v13_2) w fun _ w =>
 J0 [v4_2, v14_2] w)) /\
 (kV P (Instr.loadAt 35 v10) w fun v11_2 w =>
 (kN P (callN (.func (.func 137) #[] #[]) #[v8]) w fun v9_1 w =>
 (kN P (callN (.func (.func 136) #[] #[]) #[v9_1, v11_2]) w fun v12_3 w =>
 pV P (Instr.extract v12_3 0) fun v13_3 =>
 pV P (Instr.extract v12_3 1) fun v14_3 =>
 kV P (Instr.alloc 158 true (.tuple #[])) w fun v4_3 w =>
 kU P (Instr.storeAt 158 v4_3 v13_3) w fun _ w =>
 J0 [v4_3, v14_3] w) /\
 (kV P (Instr.alloc 158 true (.tuple #[])) w fun v4_4 w =>
 kN P (callN (.func (.func 136) #[] #[]) #[v9_1, v11_2]) w fun v12_4 w =>
 pV P (Instr.extract v12_4 0) fun v13_4 =>
 pV P (Instr.extract v12_4 1) fun v14_4 =>
 kU P (Instr.storeAt 158 v4_4 v13_4) w fun _ w =>
 J0 [v4_4, v14_4] w)) /\
 (kV P (Instr.alloc 158 true (.tuple #[])) w fun v4_5 w =>
 kN P (callN (.func (.func 137) #[] #[]) #[v8]) w fun v9_2 w =>
 kN P (callN (.func (.func 136) #[] #[]) #[v9_2, v11_2]) w fun v12_5 w =>
 pV P (Instr.extract v12_5 0) fun v13_5 =>
 pV P (Instr.extract v12_5 1) fun v14_5 =>
 kU P (Instr.storeAt 158 v4_5 v13_5) w fun _ w =>
 J0 [v4_5, v14_5] w)) /\
 (kV P (Instr.alloc 158 true (.tuple #[])) w fun v4_6 w =>
 (kN P (callN (.func (.func 137) #[] #[]) #[v8]) w fun v9_3 w =>
 kV P (Instr.loadAt 35 v10) w fun v11_3 w =>
 kN P (callN (.func (.func 136) #[] #[]) #[v9_3, v11_3]) w fun v12_6 w =>
 pV P (Instr.extract v12_6 0) fun v13_6 =>
 pV P (Instr.extract v12_6 1) fun v14_6 =>
 kU P (Instr.storeAt 158 v4_6 v13_6) w fun _ w =>
 J0 [v4_6, v14_6] w) /\
 (kV P (Instr.loadAt 35 v10) w fun v11_4 w =>
 kN P (callN (.func (.func 137) #[] #[]) #[v8]) w fun v9_4 w =>
 kN P (callN (.func (.func 136) #[] #[]) #[v9_4, v11_4]) w fun v12_7 w =>
 pV P (Instr.extract v12_7 0) fun v13_7 =>
 pV P (Instr.extract v12_7 1) fun v14_7 =>
 kU P (Instr.storeAt 158 v4_6 v13_7) w fun _ w =>
 J0 [v4_6, v14_7] w))) /\
 (kV P (Instr.loadAt 35 v10) w fun v11_5 w =>
 (kV P (Instr.loadAt 35 v7) w fun v8_1 w =>
 (kN P (callN (.func (.func 137) #[] #[]) #[v8_1]) w fun v9_5 w =>
 (kN P (callN (.func (.func 136) #[] #[]) #[v9_5, v11_5]) w fun v12_8 w =>
 pV P (Instr.extract v12_8 0) fun v13_8 =>
 pV P (Instr.extract v12_8 1) fun v14_8 =>
 kV P (Instr.alloc 158 true (.tuple #[])) w fun v4_7 w =>
 kU P (Instr.storeAt 158 v4_7 v13_8) w fun _ w =>
 J0 [v4_7, v14_8] w) /\
 (kV P (Instr.alloc 158 true (.tuple #[])) w fun v4_8 w =>
 kN P (callN (.func (.func 136) #[] #[]) #[v9_5, v11_5]) w fun v12_9 w =>
 pV P (Instr.extract v12_9 0) fun v13_9 =>
 pV P (Instr.extract v12_9 1) fun v14_9 =>
 kU P (Instr.storeAt 158 v4_8 v13_9) w fun _ w =>
 J0 [v4_8, v14_9] w)) /\
 (kV P (Instr.alloc 158 true (.tuple #[])) w fun v4_9 w =>
 kN P (callN (.func (.func 137) #[] #[]) #[v8_1]) w fun v9_6 w =>
 kN P (callN (.func (.func 136) #[] #[]) #[v9_6, v11_5]) w fun v12_10 w =>
 pV P (Instr.extract v12_10 0) fun v13_10 =>
 pV P (Instr.extract v12_10 1) fun v14_10 =>
 kU P (Instr.storeAt 158 v4_9 v13_10) w fun _ w =>
 J0 [v4_9, v14_10] w)) /\
 (kV P (Instr.alloc 158 true (.tuple #[])) w fun v4_10 w =>
 kV P (Instr.loadAt 35 v7) w fun v8_2 w =>
 kN P (callN (.func (.func 137) #[] #[]) #[v8_2]) w fun v9_7 w =>
 kN P (callN (.func (.func 136) #[] #[]) #[v9_7, v11_5]) w fun v12_11 w =>
 pV P (Instr.extract v12_11 0) fun v13_11 =>
 pV P (Instr.extract v12_11 1) fun v14_11 =>
 kU P (Instr.storeAt 158 v4_10 v13_11) w fun _ w =>
 J0 [v4_10, v14_11] w)) /\
 (kV P (Instr.alloc 158 true (.tuple #[])) w fun v4_11 w =>
 (kV P (Instr.loadAt 35 v7) w fun v8_3 w =>
 (kN P (callN (.func (.func 137) #[] #[]) #[v8_3]) w fun v9_8 w =>
 kV P (Instr.loadAt 35 v10) w fun v11_6 w =>
 kN P (callN (.func (.func 136) #[] #[]) #[v9_8, v11_6]) w fun v12_12 w =>
 pV P (Instr.extract v12_12 0) fun v13_12 =>
 pV P (Instr.extract v12_12 1) fun v14_12 =>
 kU P (Instr.storeAt 158 v4_11 v13_12) w fun _ w =>
 J0 [v4_11, v14_12] w) /\
 (kV P (Instr.loadAt 35 v10) w fun v11_7 w =>
 kN P (callN (.func (.func 137) #[] #[]) #[v8_3]) w fun v9_9 w =>
 kN P (callN (.func (.func 136) #[] #[]) #[v9_9, v11_7]) w fun v12_13 w =>
 pV P (Instr.extract v12_13 0) fun v13_13 =>
 pV P (Instr.extract v12_13 1) fun v14_13 =>
 kU P (Instr.storeAt 158 v4_11 v13_13) w fun _ w =>
 J0 [v4_11, v14_13] w)) /\
 (kV P (Instr.loadAt 35 v10) w fun v11_8 w =>
 kV P (Instr.loadAt 35 v7) w fun v8_4 w =>
 kN P (callN (.func (.func 137) #[] #[]) #[v8_4]) w fun v9_10 w =>
 kN P (callN (.func (.func 136) #[] #[]) #[v9_10, v11_8]) w fun v12_14 w =>
 pV P (Instr.extract v12_14 0) fun v13_14 =>
 pV P (Instr.extract v12_14 1) fun v14_14 =>
 kU P (Instr.storeAt 158 v4_11 v13_14) w fun _ w =>
 J0 [v4_11, v14_14] w))) w) fun s0 w => ∀ _ : Nat -> Value,
 drewK (fun w =>
 pV P (Instr.fieldAt 37 v1 1) fun v16 =>
 pV P (Instr.fieldAt 37 v1 1) fun v19 =>
 (kV P (Instr.loadAt 158 (s0.getD 0 undef)) w fun v15 w =>
 (kV P (Instr.loadAt 35 v16) w fun v17 w =>
 (kN P (callN (.func (.func 73) #[] #[]) #[v17, (.int .i64 32), (.int .i64 9)]) w fun v18 w =>
 kV P (Instr.loadAt 35 v19) w fun v20 w =>
 kN P (callN (.func (.func 73) #[] #[]) #[v20, (.int .i64 48), (.int .i64 12)]) w fun v21 w =>
 pV P (Instr.build 160 #[(0, v15), (1, v18), (2, v21)]) fun v22 =>
 kU P (Instr.storeAt 160 v2 v22) w fun _ w =>
 retV P 160 v2 w fun r2 =>
 K (.tuple #[r2, (s0.getD 1 undef)]) w) /\
 (kV P (Instr.loadAt 35 v19) w fun v20_1 w =>
 kN P (callN (.func (.func 73) #[] #[]) #[v17, (.int .i64 32), (.int .i64 9)]) w fun v18_1 w =>
 kN P (callN (.func (.func 73) #[] #[]) #[v20_1, (.int .i64 48), (.int .i64 12)]) w fun v21_1 w =>
 pV P (Instr.build 160 #[(0, v15), (1, v18_1), (2, v21_1)]) fun v22_1 =>
 kU P (Instr.storeAt 160 v2 v22_1) w fun _ w =>
 retV P 160 v2 w fun r3 =>
 K (.tuple #[r3, (s0.getD 1 undef)]) w)) /\
 (kV P (Instr.loadAt 35 v19) w fun v20_2 w =>
 kV P (Instr.loadAt 35 v16) w fun v17_1 w =>
 kN P (callN (.func (.func 73) #[] #[]) #[v17_1, (.int .i64 32), (.int .i64 9)]) w fun v18_2 w =>
 kN P (callN (.func (.func 73) #[] #[]) #[v20_2, (.int .i64 48), (.int .i64 12)]) w fun v21_2 w =>
 pV P (Instr.build 160 #[(0, v15), (1, v18_2), (2, v21_2)]) fun v22_2 =>
 kU P (Instr.storeAt 160 v2 v22_2) w fun _ w =>
 retV P 160 v2 w fun r4 =>
 K (.tuple #[r4, (s0.getD 1 undef)]) w)) /\
 (kV P (Instr.loadAt 35 v16) w fun v17_2 w =>
 (kV P (Instr.loadAt 158 (s0.getD 0 undef)) w fun v15_1 w =>
 (kN P (callN (.func (.func 73) #[] #[]) #[v17_2, (.int .i64 32), (.int .i64 9)]) w fun v18_3 w =>
 kV P (Instr.loadAt 35 v19) w fun v20_3 w =>
 kN P (callN (.func (.func 73) #[] #[]) #[v20_3, (.int .i64 48), (.int .i64 12)]) w fun v21_3 w =>
 pV P (Instr.build 160 #[(0, v15_1), (1, v18_3), (2, v21_3)]) fun v22_3 =>
 kU P (Instr.storeAt 160 v2 v22_3) w fun _ w =>
 retV P 160 v2 w fun r5 =>
 K (.tuple #[r5, (s0.getD 1 undef)]) w) /\
 (kV P (Instr.loadAt 35 v19) w fun v20_4 w =>
 kN P (callN (.func (.func 73) #[] #[]) #[v17_2, (.int .i64 32), (.int .i64 9)]) w fun v18_4 w =>
 kN P (callN (.func (.func 73) #[] #[]) #[v20_4, (.int .i64 48), (.int .i64 12)]) w fun v21_4 w =>
 pV P (Instr.build 160 #[(0, v15_1), (1, v18_4), (2, v21_4)]) fun v22_4 =>
 kU P (Instr.storeAt 160 v2 v22_4) w fun _ w =>
 retV P 160 v2 w fun r6 =>
 K (.tuple #[r6, (s0.getD 1 undef)]) w)) /\
 (kN P (callN (.func (.func 73) #[] #[]) #[v17_2, (.int .i64 32), (.int .i64 9)]) w fun v18_5 w =>
 (kV P (Instr.loadAt 158 (s0.getD 0 undef)) w fun v15_2 w =>
 kV P (Instr.loadAt 35 v19) w fun v20_5 w =>
 kN P (callN (.func (.func 73) #[] #[]) #[v20_5, (.int .i64 48), (.int .i64 12)]) w fun v21_5 w =>
 pV P (Instr.build 160 #[(0, v15_2), (1, v18_5), (2, v21_5)]) fun v22_5 =>
 kU P (Instr.storeAt 160 v2 v22_5) w fun _ w =>
 retV P 160 v2 w fun r7 =>
 K (.tuple #[r7, (s0.getD 1 undef)]) w) /\
 (kV P (Instr.loadAt 35 v19) w fun v20_6 w =>
 (kV P (Instr.loadAt 158 (s0.getD 0 undef)) w fun v15_3 w =>
 kN P (callN (.func (.func 73) #[] #[]) #[v20_6, (.int .i64 48), (.int .i64 12)]) w fun v21_6 w =>
 pV P (Instr.build 160 #[(0, v15_3), (1, v18_5), (2, v21_6)]) fun v22_6 =>
 kU P (Instr.storeAt 160 v2 v22_6) w fun _ w =>
 retV P 160 v2 w fun r8 =>
 K (.tuple #[r8, (s0.getD 1 undef)]) w) /\
 (kN P (callN (.func (.func 73) #[] #[]) #[v20_6, (.int .i64 48), (.int .i64 12)]) w fun v21_7 w =>
 kV P (Instr.loadAt 158 (s0.getD 0 undef)) w fun v15_4 w =>
 pV P (Instr.build 160 #[(0, v15_4), (1, v18_5), (2, v21_7)]) fun v22_7 =>
 kU P (Instr.storeAt 160 v2 v22_7) w fun _ w =>
 retV P 160 v2 w fun r9 =>
 K (.tuple #[r9, (s0.getD 1 undef)]) w))) /\
 (kV P (Instr.loadAt 35 v19) w fun v20_7 w =>
 (kV P (Instr.loadAt 158 (s0.getD 0 undef)) w fun v15_5 w =>
 kN P (callN (.func (.func 73) #[] #[]) #[v17_2, (.int .i64 32), (.int .i64 9)]) w fun v18_6 w =>
 kN P (callN (.func (.func 73) #[] #[]) #[v20_7, (.int .i64 48), (.int .i64 12)]) w fun v21_8 w =>
 pV P (Instr.build 160 #[(0, v15_5), (1, v18_6), (2, v21_8)]) fun v22_8 =>
 kU P (Instr.storeAt 160 v2 v22_8) w fun _ w =>
 retV P 160 v2 w fun r10 =>
 K (.tuple #[r10, (s0.getD 1 undef)]) w) /\
 (kN P (callN (.func (.func 73) #[] #[]) #[v17_2, (.int .i64 32), (.int .i64 9)]) w fun v18_7 w =>
 (kV P (Instr.loadAt 158 (s0.getD 0 undef)) w fun v15_6 w =>
 kN P (callN (.func (.func 73) #[] #[]) #[v20_7, (.int .i64 48), (.int .i64 12)]) w fun v21_9 w =>
 pV P (Instr.build 160 #[(0, v15_6), (1, v18_7), (2, v21_9)]) fun v22_9 =>
 kU P (Instr.storeAt 160 v2 v22_9) w fun _ w =>
 retV P 160 v2 w fun r11 =>
 K (.tuple #[r11, (s0.getD 1 undef)]) w) /\
 (kN P (callN (.func (.func 73) #[] #[]) #[v20_7, (.int .i64 48), (.int .i64 12)]) w fun v21_10 w =>
 kV P (Instr.loadAt 158 (s0.getD 0 undef)) w fun v15_7 w =>
 pV P (Instr.build 160 #[(0, v15_7), (1, v18_7), (2, v21_10)]) fun v22_10 =>
 kU P (Instr.storeAt 160 v2 v22_10) w fun _ w =>
 retV P 160 v2 w fun r12 =>
 K (.tuple #[r12, (s0.getD 1 undef)]) w)))) /\
 (kV P (Instr.loadAt 35 v19) w fun v20_8 w =>
 (kV P (Instr.loadAt 158 (s0.getD 0 undef)) w fun v15_8 w =>
 kV P (Instr.loadAt 35 v16) w fun v17_3 w =>
 kN P (callN (.func (.func 73) #[] #[]) #[v17_3, (.int .i64 32), (.int .i64 9)]) w fun v18_8 w =>
 kN P (callN (.func (.func 73) #[] #[]) #[v20_8, (.int .i64 48), (.int .i64 12)]) w fun v21_11 w =>
 pV P (Instr.build 160 #[(0, v15_8), (1, v18_8), (2, v21_11)]) fun v22_11 =>
 kU P (Instr.storeAt 160 v2 v22_11) w fun _ w =>
 retV P 160 v2 w fun r13 =>
 K (.tuple #[r13, (s0.getD 1 undef)]) w) /\
 (kV P (Instr.loadAt 35 v16) w fun v17_4 w =>
 (kV P (Instr.loadAt 158 (s0.getD 0 undef)) w fun v15_9 w =>
 kN P (callN (.func (.func 73) #[] #[]) #[v17_4, (.int .i64 32), (.int .i64 9)]) w fun v18_9 w =>
 kN P (callN (.func (.func 73) #[] #[]) #[v20_8, (.int .i64 48), (.int .i64 12)]) w fun v21_12 w =>
 pV P (Instr.build 160 #[(0, v15_9), (1, v18_9), (2, v21_12)]) fun v22_12 =>
 kU P (Instr.storeAt 160 v2 v22_12) w fun _ w =>
 retV P 160 v2 w fun r14 =>
 K (.tuple #[r14, (s0.getD 1 undef)]) w) /\
 (kN P (callN (.func (.func 73) #[] #[]) #[v17_4, (.int .i64 32), (.int .i64 9)]) w fun v18_10 w =>
 (kV P (Instr.loadAt 158 (s0.getD 0 undef)) w fun v15_10 w =>
 kN P (callN (.func (.func 73) #[] #[]) #[v20_8, (.int .i64 48), (.int .i64 12)]) w fun v21_13 w =>
 pV P (Instr.build 160 #[(0, v15_10), (1, v18_10), (2, v21_13)]) fun v22_13 =>
 kU P (Instr.storeAt 160 v2 v22_13) w fun _ w =>
 retV P 160 v2 w fun r15 =>
 K (.tuple #[r15, (s0.getD 1 undef)]) w) /\
 (kN P (callN (.func (.func 73) #[] #[]) #[v20_8, (.int .i64 48), (.int .i64 12)]) w fun v21_14 w =>
 kV P (Instr.loadAt 158 (s0.getD 0 undef)) w fun v15_11 w =>
 pV P (Instr.build 160 #[(0, v15_11), (1, v18_10), (2, v21_14)]) fun v22_14 =>
 kU P (Instr.storeAt 160 v2 v22_14) w fun _ w =>
 retV P 160 v2 w fun r16 =>
 K (.tuple #[r16, (s0.getD 1 undef)]) w))))) w
theorem F105_eq (t0 : Value) : funE P ⟨[(1, 999), (2, 999)], [], [(2, [4, 5])]⟩ Tryz.f105 [t0] w K = F105 P w K t0 := by kernel_rfl
theorem F105_ok (t0 : Value) (h : F105 Tryz.prog w K t0) : callsK Tryz.prog 105 #[t0] w K := calls_of_eq mixedC Tryz.func105 (F105_eq _ w K t0) h
def F136 (t0 t1 : Value) : Prop :=
 kV P (Instr.box 226 t0) w fun v2 w =>
 kV P (Instr.alloc 158 true (.tuple #[])) w fun v4 w =>
 joinL (fun J0 =>
 drewK (fun w =>
 (kV P (Instr.loadAt 226 v2) w fun v11 w =>
 kV P (Instr.loadAt 226 v2) w fun v12 w =>
 kN P (callN (.func (.func 163) #[] #[]) #[v12]) w fun v13 w =>
 kN P (callN (.func (.func 137) #[] #[]) #[v13]) w fun v14 w =>
 pV P (binV .neq 226 (.tmp 11) (.tmp 14) v11 v14) fun v15 =>
 gdP (yb v15) false (fun k => pV P (Instr.fieldAt 226 v2 2) k) fun v17 =>
 gdK (yb v15) false (fun k => kV P (Instr.loadAt 35 v17) w k) w fun v18 w =>
 gdP (yb v15) false (fun k => pV P (binV .gtr 35 (.tmp 18) (.const (.int .u64 37)) v18 (.int .u64 37)) k) fun v19 =>
 pN P (pickN v15 (.bool true) v19) fun v20 =>
 gdP (yb v20) false (fun k => k t1) fun v22 =>
 gdP (yb v20) false (fun k => pV P (binV .geq 35 (.tmp 22) (.const (.int .u64 281474976710656)) v22 (.int .u64 281474976710656)) k) fun v23 =>
 pN P (pickN v20 (.bool true) v23) fun v24 =>
 J0 [v24] w) /\
 (kV P (Instr.loadAt 226 v2) w fun v12_1 w =>
 (kV P (Instr.loadAt 226 v2) w fun v11_1 w =>
 kN P (callN (.func (.func 163) #[] #[]) #[v12_1]) w fun v13_1 w =>
 kN P (callN (.func (.func 137) #[] #[]) #[v13_1]) w fun v14_1 w =>
 pV P (binV .neq 226 (.tmp 11) (.tmp 14) v11_1 v14_1) fun v15_1 =>
 gdP (yb v15_1) false (fun k => pV P (Instr.fieldAt 226 v2 2) k) fun v17_1 =>
 gdK (yb v15_1) false (fun k => kV P (Instr.loadAt 35 v17_1) w k) w fun v18_1 w =>
 gdP (yb v15_1) false (fun k => pV P (binV .gtr 35 (.tmp 18) (.const (.int .u64 37)) v18_1 (.int .u64 37)) k) fun v19_1 =>
 pN P (pickN v15_1 (.bool true) v19_1) fun v20_1 =>
 gdP (yb v20_1) false (fun k => k t1) fun v22_1 =>
 gdP (yb v20_1) false (fun k => pV P (binV .geq 35 (.tmp 22) (.const (.int .u64 281474976710656)) v22_1 (.int .u64 281474976710656)) k) fun v23_1 =>
 pN P (pickN v20_1 (.bool true) v23_1) fun v24_1 =>
 J0 [v24_1] w) /\
 (kN P (callN (.func (.func 163) #[] #[]) #[v12_1]) w fun v13_2 w =>
 (kV P (Instr.loadAt 226 v2) w fun v11_2 w =>
 kN P (callN (.func (.func 137) #[] #[]) #[v13_2]) w fun v14_2 w =>
 pV P (binV .neq 226 (.tmp 11) (.tmp 14) v11_2 v14_2) fun v15_2 =>
 gdP (yb v15_2) false (fun k => pV P (Instr.fieldAt 226 v2 2) k) fun v17_2 =>
 gdK (yb v15_2) false (fun k => kV P (Instr.loadAt 35 v17_2) w k) w fun v18_2 w =>
 gdP (yb v15_2) false (fun k => pV P (binV .gtr 35 (.tmp 18) (.const (.int .u64 37)) v18_2 (.int .u64 37)) k) fun v19_2 =>
 pN P (pickN v15_2 (.bool true) v19_2) fun v20_2 =>
 gdP (yb v20_2) false (fun k => k t1) fun v22_2 =>
 gdP (yb v20_2) false (fun k => pV P (binV .geq 35 (.tmp 22) (.const (.int .u64 281474976710656)) v22_2 (.int .u64 281474976710656)) k) fun v23_2 =>
 pN P (pickN v20_2 (.bool true) v23_2) fun v24_2 =>
 J0 [v24_2] w) /\
 (kN P (callN (.func (.func 137) #[] #[]) #[v13_2]) w fun v14_3 w =>
 kV P (Instr.loadAt 226 v2) w fun v11_3 w =>
 pV P (binV .neq 226 (.tmp 11) (.tmp 14) v11_3 v14_3) fun v15_3 =>
 gdP (yb v15_3) false (fun k => pV P (Instr.fieldAt 226 v2 2) k) fun v17_3 =>
 gdK (yb v15_3) false (fun k => kV P (Instr.loadAt 35 v17_3) w k) w fun v18_3 w =>
 gdP (yb v15_3) false (fun k => pV P (binV .gtr 35 (.tmp 18) (.const (.int .u64 37)) v18_3 (.int .u64 37)) k) fun v19_3 =>
 pN P (pickN v15_3 (.bool true) v19_3) fun v20_3 =>
 gdP (yb v20_3) false (fun k => k t1) fun v22_3 =>
 gdP (yb v20_3) false (fun k => pV P (binV .geq 35 (.tmp 22) (.const (.int .u64 281474976710656)) v22_3 (.int .u64 281474976710656)) k) fun v23_3 =>
 pN P (pickN v20_3 (.bool true) v23_3) fun v24_3 =>
 J0 [v24_3] w)))) w) fun s0 w => ∀ _ : Nat -> Value,
 condK (s0.getD 0 undef)
 (kV P (Instr.build 158 #[]) w fun v25 w =>
 kU P (Instr.storeAt 158 v4 v25) w fun _ w =>
 retV P 158 v4 w fun r2 =>
 K (.tuple #[r2, (.bool false)]) w)
 (kV P (Instr.fieldAt 226 v2 2) w fun v26 w =>
 kV P (Instr.loadAt 35 v26) w fun v27 w =>
 kN P (callN (.func (.func 164) #[] #[]) #[v27]) w fun v28 w =>
 kV P (Instr.fieldAt 226 v2 1) w fun v29 w =>
 kV P (Instr.loadAt 35 v29) w fun v30 w =>
 kV P (Instr.fieldAt 226 v2 0) w fun v31 w =>
 kV P (Instr.loadAt 35 v31) w fun v32 w =>
 kV P (binV .sub 35 (.tmp 30) (.tmp 32) v30 v32) w fun v33 w =>
 kV P (binV .and 35 (.tmp 33) (.const (.int .u64 4095)) v33 (.int .u64 4095)) w fun v34 w =>
 joinL (fun J3 =>
 kV P (Instr.fieldAt 226 v2 2) w fun v35 w =>
 kV P (Instr.loadAt 35 v35) w fun v36 w =>
 kV P (binV .gtr 35 (.tmp 36) (.const (.int .u64 0)) v36 (.int .u64 0)) w fun v37 w =>
 condK v37
 (kV P (binV .or 35 (.tmp 38) (.const (.int .u64 4096)) v34 (.int .u64 4096)) w fun v39 w =>
 J3 [v39] w)
 (J3 [v34] w)) fun s3 w => ∀ _ : Nat -> Value,
 kV P (binV .shr 35 (.tmp 40) (.tmp 41) t1 v28) w fun v42 w =>
 kV P (Instr.fieldAt 226 v2 0) w fun v44 w =>
 kV P (Instr.loadAt 35 v44) w fun v45 w =>
 kV P (binV .sub 35 (.tmp 43) (.tmp 45) v42 v45) w fun v46 w =>
 kV P (binV .add 35 (.tmp 46) (.const (.int .u64 4096)) v46 (.int .u64 4096)) w fun v47 w =>
 kV P (binV .and 35 (.tmp 47) (.const (.int .u64 16383)) v47 (.int .u64 16383)) w fun v48 w =>
 kV P (binV .add 35 (.tmp 49) (.const (.int .u64 4096)) v42 (.int .u64 4096)) w fun v50 w =>
 kV P (binV .lss 35 (.tmp 50) (.tmp 51) v50 v48) w fun v52 w =>
 condK v52
 (kV P (Instr.build 158 #[]) w fun v53 w =>
 kU P (Instr.storeAt 158 v4 v53) w fun _ w =>
 retV P 158 v4 w fun r5 =>
 K (.tuple #[r5, (.bool false)]) w)
 (kV P (binV .add 35 (.tmp 54) (.const (.int .u64 4096)) v42 (.int .u64 4096)) w fun v55 w =>
 kV P (binV .sub 35 (.tmp 55) (.tmp 56) v55 v48) w fun v57 w =>
 kV P (binV .add 35 (.tmp 58) (.tmp 59) v57 (s3.getD 0 undef)) w fun v60 w =>
 kV P (binV .shr 35 (.const (.int .u64 281474976710656)) (.tmp 61) (.int .u64 281474976710656) v28) w fun v62 w =>
 kV P (binV .gtr 35 (.tmp 60) (.tmp 62) v60 v62) w fun v63 w =>
 condK v63
 (kV P (Instr.build 158 #[]) w fun v64 w =>
 kU P (Instr.storeAt 158 v4 v64) w fun _ w =>
 retV P 158 v4 w fun r6 =>
 K (.tuple #[r6, (.bool false)]) w)
 (drewK (fun w =>
 sV P (binV .shl 35 (.tmp 65) (.tmp 66) v57 v28) w fun v67 =>
 sV P (binV .add 35 (.tmp 68) (.tmp 69) v57 (s3.getD 0 undef)) w fun v70 =>
 sV P (binV .shl 35 (.tmp 70) (.tmp 71) v70 v28) w fun v72 =>
 kV P (Instr.build 158 #[(0, v67), (1, v72)]) w fun v73 w =>
 kU P (Instr.storeAt 158 v4 v73) w fun _ w =>
 retV P 158 v4 w fun r7 =>
 K (.tuple #[r7, (.bool true)]) w) w)))
theorem F136_eq (t0 t1 : Value) : funE P ⟨[(1, 999), (14, 8)], [], [(2, [24]), (7, [7])]⟩ Tryz.f136 [t0, t1] w K = F136 P w K t0 t1 := by kernel_rfl
theorem F136_ok (t0 t1 : Value) (h : F136 Tryz.prog w K t0 t1) : callsK Tryz.prog 136 #[t0, t1] w K := calls_of_eq mixedC Tryz.func136 (F136_eq _ w K t0 t1) h
def F137 (t0 : Value) : Prop :=
 kV P (Instr.alloc 226 true (.tuple #[])) w fun v2 w =>
 kV P (Instr.alloc 251 true (.tuple #[])) w fun v3 w =>
 kN P (callN (.func (.func 165) #[] #[]) #[]) w fun v7 w =>
 loopT (fun R0 s0 w => ∀ _ : Nat -> Value,
 kV P (binV .lss 3 (.tmp 8) (.const (.int .i64 3)) (s0.getD 1 undef) (.int .i64 3)) w fun v9 w =>
 condK v9
 (kV P (Instr.index 252 v7 (s0.getD 1 undef)) w fun v11 w =>
 kN P (callN (.func (.func 73) #[] #[]) #[t0, (s0.getD 0 undef), v11]) w fun v16 w =>
 kV P (Instr.indexAt 251 v3 (s0.getD 1 undef)) w fun v17 w =>
 kU P (Instr.storeAt 35 v17 v16) w fun _ w =>
 kV P (binV .add 3 (.tmp 18) (.tmp 19) (s0.getD 0 undef) v11) w fun v20 w =>
 kV P (binV .add 3 (.tmp 8) (.const (.int .i64 1)) (s0.getD 1 undef) (.int .i64 1)) w fun v21 w =>
 R0 [v20, v21] w)
 (kV P (Instr.indexAt 251 v3 (.int .i64 0)) w fun v22 w =>
 kV P (Instr.loadAt 35 v22) w fun v23 w =>
 kV P (Instr.indexAt 251 v3 (.int .i64 1)) w fun v24 w =>
 kV P (Instr.loadAt 35 v24) w fun v25 w =>
 kV P (Instr.indexAt 251 v3 (.int .i64 2)) w fun v26 w =>
 kV P (Instr.loadAt 35 v26) w fun v27 w =>
 kV P (Instr.build 226 #[(0, v23), (1, v25), (2, v27)]) w fun v28 w =>
 kU P (Instr.storeAt 226 v2 v28) w fun _ w =>
 retV P 226 v2 w fun r2 =>
 K r2 w)) [(.int .i64 0), (.int .i64 0)] w
theorem F137_eq (t0 : Value) : funE P ⟨[], [(4, [4, 8])], []⟩ Tryz.f137 [t0] w K = F137 P w K t0 := by kernel_rfl
theorem F137_ok (t0 : Value) (h : F137 Tryz.prog w K t0) : callsK Tryz.prog 137 #[t0] w K := calls_of_eq mixedC Tryz.func137 (F137_eq _ w K t0) h
def F163 (t0 : Value) : Prop :=
 kV P (Instr.box 226 t0) w fun v1 w =>
 kV P (Instr.fieldAt 226 v1 0) w fun v8 w =>
 kV P (Instr.loadAt 35 v8) w fun v9 w =>
 kV P (Instr.fieldAt 226 v1 1) w fun v10 w =>
 kV P (Instr.loadAt 35 v10) w fun v11 w =>
 kV P (Instr.fieldAt 226 v1 2) w fun v12 w =>
 kV P (Instr.loadAt 35 v12) w fun v13 w =>
 kV P (Instr.build 251 #[(0, v9), (1, v11), (2, v13)]) w fun v14 w =>
 kV P (Instr.alloc 251 true (.tuple #[])) w fun v5 w =>
 kU P (Instr.storeAt 251 v5 v14) w fun _ w =>
 kN P (callN (.func (.func 165) #[] #[]) #[]) w fun v15 w =>
 loopT (fun R0 s0 w => ∀ _ : Nat -> Value,
 kV P (binV .lss 3 (.tmp 16) (.const (.int .i64 3)) (s0.getD 2 undef) (.int .i64 3)) w fun v17 w =>
 condK v17
 (kV P (Instr.index 252 v15 (s0.getD 2 undef)) w fun v19 w =>
 kV P (Instr.indexAt 251 v5 (s0.getD 2 undef)) w fun v24 w =>
 kV P (Instr.loadAt 35 v24) w fun v25 w =>
 kN P (callN (.func (.func 52) #[] #[]) #[(s0.getD 0 undef), (s0.getD 1 undef), v19, v25]) w fun v26 w =>
 kV P (binV .add 3 (.tmp 27) (.tmp 28) (s0.getD 1 undef) v19) w fun v29 w =>
 kV P (binV .add 3 (.tmp 16) (.const (.int .i64 1)) (s0.getD 2 undef) (.int .i64 1)) w fun v30 w =>
 R0 [v26, v29, v30] w)
 (K (s0.getD 0 undef) w)) [(.int .u64 0), (.int .i64 0), (.int .i64 0)] w
theorem F163_eq (t0 : Value) : funE P ⟨[], [(4, [4, 3, 16])], []⟩ Tryz.f163 [t0] w K = F163 P w K t0 := by kernel_rfl
theorem F163_ok (t0 : Value) (h : F163 Tryz.prog w K t0) : callsK Tryz.prog 163 #[t0] w K := calls_of_eq mixedC Tryz.func163 (F163_eq _ w K t0) h
def F164 (t0 : Value) : Prop :=
 kV P (convert 35 3 t0) w fun v4 w =>
 kV P (Builtin.max_ #[3, 3] 3 #[v4, (.int .i64 1)]) w fun v5 w =>
 kV P (binV .sub 3 (.tmp 5) (.const (.int .i64 1)) v5 (.int .i64 1)) w fun v6 w =>
 K v6 w
theorem F164_eq (t0 : Value) : funE P ⟨[], [], []⟩ Tryz.f164 [t0] w K = F164 P w K t0 := by kernel_rfl
theorem F164_ok (t0 : Value) (h : F164 Tryz.prog w K t0) : callsK Tryz.prog 164 #[t0] w K := calls_of_eq mixedC Tryz.func164 (F164_eq _ w K t0) h
def F165 : Prop :=
 kV P (Instr.alloc 252 true (.tuple #[])) w fun v0 w =>
 kV P (Instr.build 252 #[(0, (.int .i64 14)), (1, (.int .i64 12)), (2, (.int .i64 6))]) w fun v1 w =>
 kU P (Instr.storeAt 252 v0 v1) w fun _ w =>
 retV P 252 v0 w fun r0 =>
 K r0 w
theorem F165_eq : funE P ⟨[], [], []⟩ Tryz.f165 [] w K = F165 P w K  := by kernel_rfl
theorem F165_ok  (h : F165 Tryz.prog w K ) : callsK Tryz.prog 165 #[] w K := calls_of_eq mixedC Tryz.func165 (F165_eq _ w K ) h
end
open Go.Fx
set_option maxRecDepth 100000
set_option maxHeartbeats 4000000
theorem RC_call_97 : type_of% (Fx.kN_callf Tryz.call97) := Fx.kN_callf Tryz.call97
theorem RC_call_52 : type_of% (Fx.kN_callf Tryz.call52) := Fx.kN_callf Tryz.call52
theorem RC_call_100 : type_of% (Fx.kN_callf Tryz.call100) := Fx.kN_callf Tryz.call100
theorem RC_call_73 : type_of% (Fx.kN_callf Tryz.call73) := Fx.kN_callf Tryz.call73
theorem RC_call_105 : type_of% (Fx.kN_callf Tryz.call105) := Fx.kN_callf Tryz.call105
theorem RC_al_160 : type_of% (Fx.run_alloc Tryz.zeroValue160) := Fx.run_alloc Tryz.zeroValue160
theorem RC_fld_37_1 : ∀ (b o : Nat) (w : World), (Instr.fieldAt 37 (.pointer (some ⟨b, o, none⟩)) 1).run Tryz.prog w = .ok (.pointer (some ⟨b, o + 1, none⟩)) w := Fx.run_fieldO 1 1 1 Tryz.underlying37 rfl Tryz.sizeOf35 (by decide)
theorem RC_ld_35 : type_of% (Fx.run_load1' Tryz.isAgg35) := Fx.run_load1' Tryz.isAgg35
theorem RC_call_137 : type_of% (Fx.kN_callf Tryz.call137) := Fx.kN_callf Tryz.call137
theorem RC_fld_37_2 : ∀ (b o : Nat) (w : World), (Instr.fieldAt 37 (.pointer (some ⟨b, o, none⟩)) 2).run Tryz.prog w = .ok (.pointer (some ⟨b, o + 2, none⟩)) w := Fx.run_fieldO 2 2 1 Tryz.underlying37 rfl Tryz.sizeOf35 (by decide)
theorem RC_call_136 : type_of% (Fx.kN_callf Tryz.call136) := Fx.kN_callf Tryz.call136
theorem RC_al_158 : type_of% (Fx.run_alloc Tryz.zeroValue158) := Fx.run_alloc Tryz.zeroValue158
theorem RC_st_158 : type_of% (Fx.run_storeN' Tryz.sizeOf158) := Fx.run_storeN' Tryz.sizeOf158
theorem RC_ld_158 : type_of% (Fx.run_loadN' Tryz.isAgg158 Tryz.sizeOf158) := Fx.run_loadN' Tryz.isAgg158 Tryz.sizeOf158
theorem RC_bl_160_0_1_2 : ∀ (a0x0 : Int) (a0x1 : Int) (a1x0 : Int) (a2x0 : Int) (w : World), (Instr.build 160 [(0, .agg [.int .u64 a0x0, .int .u64 a0x1].toArray), (1, .int .u64 a1x0), (2, .int .u64 a2x0)].toArray).run Tryz.prog w = .ok (.agg [.int .u64 a0x0, .int .u64 a0x1, .int .u64 a1x0, .int .u64 a2x0].toArray) w := fun a0x0 a0x1 a1x0 a2x0 w => run_build w 160 _ _ (by kernel_rfl)
theorem RC_st_160 : type_of% (Fx.run_storeN' Tryz.sizeOf160) := Fx.run_storeN' Tryz.sizeOf160
theorem RC_ld_160 : type_of% (Fx.run_loadN' Tryz.isAgg160 Tryz.sizeOf160) := Fx.run_loadN' Tryz.isAgg160 Tryz.sizeOf160
theorem RC_ld_226 : type_of% (Fx.run_loadN' Tryz.isAgg226 Tryz.sizeOf226) := Fx.run_loadN' Tryz.isAgg226 Tryz.sizeOf226
theorem RC_call_163 : type_of% (Fx.kN_callf Tryz.call163) := Fx.kN_callf Tryz.call163
theorem RC_neq_226 : ∀ (a0 b0 : Int) (a1 b1 : Int) (a2 b2 : Int) (x y : Operand) (w : World), (binV .neq 226 x y (.agg [.int .u64 a0, .int .u64 a1, .int .u64 a2].toArray) (.agg [.int .u64 b0, .int .u64 b1, .int .u64 b2].toArray)).run Tryz.prog w = .ok (.bool (!((a0 == b0) && ((a1 == b1) && ((a2 == b2) && true))))) w := fun a0 b0 a1 b1 a2 b2 x y w => Fx.neq_agg (by kernel_rfl) _ _ _ x y w (Fx.equalIn_struct (d := 9999) (by kernel_rfl) (by kernel_rfl) (q := [(35, 0), (35, 1), (35, 2)]) (by kernel_rfl) (by kernel_rfl) (Fx.eqQ_cons (Fx.part1 Tryz.isAgg35 rfl) (Fx.part1 Tryz.isAgg35 rfl) (run_equalIn_int _ 9998 35 .u64 .u64 _ _ Tryz.underlying35) (Fx.eqQ_cons (Fx.part1 Tryz.isAgg35 rfl) (Fx.part1 Tryz.isAgg35 rfl) (run_equalIn_int _ 9998 35 .u64 .u64 _ _ Tryz.underlying35) (Fx.eqQ_cons (Fx.part1 Tryz.isAgg35 rfl) (Fx.part1 Tryz.isAgg35 rfl) (run_equalIn_int _ 9998 35 .u64 .u64 _ _ Tryz.underlying35) (Fx.eqQ_nil)))))
theorem RC_fld_226_2 : ∀ (b o : Nat) (w : World), (Instr.fieldAt 226 (.pointer (some ⟨b, o, none⟩)) 2).run Tryz.prog w = .ok (.pointer (some ⟨b, o + 2, none⟩)) w := Fx.run_fieldO 2 2 1 Tryz.underlying226 rfl Tryz.sizeOf35 (by decide)
theorem RC_bl_158_ : ∀  (w : World), (Instr.build 158 [].toArray).run Tryz.prog w = .ok (.agg [(.int .u64 0), (.int .u64 0)].toArray) w := fun w => run_build w 158 _ _ (by kernel_rfl)
theorem RC_call_164 : type_of% (Fx.kN_callf Tryz.call164) := Fx.kN_callf Tryz.call164
theorem RC_fld_226_1 : ∀ (b o : Nat) (w : World), (Instr.fieldAt 226 (.pointer (some ⟨b, o, none⟩)) 1).run Tryz.prog w = .ok (.pointer (some ⟨b, o + 1, none⟩)) w := Fx.run_fieldO 1 1 1 Tryz.underlying226 rfl Tryz.sizeOf35 (by decide)
theorem RC_fld_226_0 : ∀ (b o : Nat) (w : World), (Instr.fieldAt 226 (.pointer (some ⟨b, o, none⟩)) 0).run Tryz.prog w = .ok (.pointer (some ⟨b, o, none⟩)) w := Fx.run_fieldO 0 0 1 Tryz.underlying226 rfl Tryz.sizeOf35 (by decide)
theorem RC_bl_158_0_1 : ∀ (a0x0 : Int) (a1x0 : Int) (w : World), (Instr.build 158 [(0, .int .u64 a0x0), (1, .int .u64 a1x0)].toArray).run Tryz.prog w = .ok (.agg [.int .u64 a0x0, .int .u64 a1x0].toArray) w := fun a0x0 a1x0 w => run_build w 158 _ _ (by kernel_rfl)
theorem RC_al_226 : type_of% (Fx.run_alloc Tryz.zeroValue226) := Fx.run_alloc Tryz.zeroValue226
theorem RC_al_251 : type_of% (Fx.run_alloc Tryz.zeroValue251) := Fx.run_alloc Tryz.zeroValue251
theorem RC_call_165 : type_of% (Fx.kN_callf Tryz.call165) := Fx.kN_callf Tryz.call165
theorem RC_iv_252 : type_of% (Fx.run_indexV Tryz.underlying252 Tryz.isAgg3 Tryz.sizeOf3) := Fx.run_indexV Tryz.underlying252 Tryz.isAgg3 Tryz.sizeOf3
theorem RC_ix_251 : type_of% (Fx.run_index_array Tryz.underlying251 Tryz.sizeOf35) := Fx.run_index_array Tryz.underlying251 Tryz.sizeOf35
theorem RC_st_35 : type_of% (Fx.run_store1' Tryz.sizeOf35) := Fx.run_store1' Tryz.sizeOf35
theorem RC_bl_226_0_1_2 : ∀ (a0x0 : Int) (a1x0 : Int) (a2x0 : Int) (w : World), (Instr.build 226 [(0, .int .u64 a0x0), (1, .int .u64 a1x0), (2, .int .u64 a2x0)].toArray).run Tryz.prog w = .ok (.agg [.int .u64 a0x0, .int .u64 a1x0, .int .u64 a2x0].toArray) w := fun a0x0 a1x0 a2x0 w => run_build w 226 _ _ (by kernel_rfl)
theorem RC_st_226 : type_of% (Fx.run_storeN' Tryz.sizeOf226) := Fx.run_storeN' Tryz.sizeOf226
theorem RC_bl_251 : ∀ (a0 : Int) (a1 : Int) (a2 : Int) (w : World), (Instr.build 251 [(0, .int .u64 a0), (1, .int .u64 a1), (2, .int .u64 a2)].toArray).run Tryz.prog w = .ok (.agg [.int .u64 a0, .int .u64 a1, .int .u64 a2].toArray) w := fun a0 a1 a2 w => run_build w 251 _ _ (by kernel_rfl)
theorem RC_st_251 : type_of% (Fx.run_storeN' Tryz.sizeOf251) := Fx.run_storeN' Tryz.sizeOf251
theorem RC_cv_35_3 : type_of% (Fx.run_convert_int Tryz.underlying35 Tryz.underlying3) := Fx.run_convert_int Tryz.underlying35 Tryz.underlying3
theorem RC_al_252 : type_of% (Fx.run_alloc Tryz.zeroValue252) := Fx.run_alloc Tryz.zeroValue252
theorem RC_bl_252 : ∀ (a0 : Int) (a1 : Int) (a2 : Int) (w : World), (Instr.build 252 [(0, .int .i64 a0), (1, .int .i64 a1), (2, .int .i64 a2)].toArray).run Tryz.prog w = .ok (.agg [.int .i64 a0, .int .i64 a1, .int .i64 a2].toArray) w := fun a0 a1 a2 w => run_build w 252 _ _ (by kernel_rfl)
theorem RC_st_252 : type_of% (Fx.run_storeN' Tryz.sizeOf252) := Fx.run_storeN' Tryz.sizeOf252
theorem RC_ld_252 : type_of% (Fx.run_loadN' Tryz.isAgg252 Tryz.sizeOf252) := Fx.run_loadN' Tryz.isAgg252 Tryz.sizeOf252
theorem rulesC : type_of% (And.intro @RA_call_51 (And.intro @RA_cv_2_35 (And.intro @RA_call_99 (And.intro @RC_call_97 (And.intro @RC_call_52 (And.intro @RC_call_100 (And.intro @RC_call_73 (And.intro @RA_cv_35_2 (And.intro @RC_call_105 (And.intro @RC_al_160 (And.intro @RC_fld_37_1 (And.intro @RC_ld_35 (And.intro @RC_call_137 (And.intro @RC_fld_37_2 (And.intro @RC_call_136 (And.intro @RC_al_158 (And.intro @RC_st_158 (And.intro @RC_ld_158 (And.intro @RC_bl_160_0_1_2 (And.intro @RC_st_160 (And.intro @RC_ld_160 (And.intro @RC_ld_226 (And.intro @RC_call_163 (And.intro @RC_neq_226 (And.intro @RC_fld_226_2 (And.intro @RC_bl_158_ (And.intro @RC_call_164 (And.intro @RC_fld_226_1 (And.intro @RC_fld_226_0 (And.intro @RC_bl_158_0_1 (And.intro @RC_al_226 (And.intro @RC_al_251 (And.intro @RC_call_165 (And.intro @RC_iv_252 (And.intro @RC_ix_251 (And.intro @RC_st_35 (And.intro @RC_bl_226_0_1_2 (And.intro @RC_st_226 (And.intro @RC_bl_251 (And.intro @RC_st_251 (And.intro @RC_cv_35_3 (And.intro @RC_al_252 (And.intro @RC_bl_252 (And.intro @RC_st_252 (@RC_ld_252))))))))))))))))))))))))))))))))))))))))))))) := ⟨@RA_call_51, @RA_cv_2_35, @RA_call_99, @RC_call_97, @RC_call_52, @RC_call_100, @RC_call_73, @RA_cv_35_2, @RC_call_105, @RC_al_160, @RC_fld_37_1, @RC_ld_35, @RC_call_137, @RC_fld_37_2, @RC_call_136, @RC_al_158, @RC_st_158, @RC_ld_158, @RC_bl_160_0_1_2, @RC_st_160, @RC_ld_160, @RC_ld_226, @RC_call_163, @RC_neq_226, @RC_fld_226_2, @RC_bl_158_, @RC_call_164, @RC_fld_226_1, @RC_fld_226_0, @RC_bl_158_0_1, @RC_al_226, @RC_al_251, @RC_call_165, @RC_iv_252, @RC_ix_251, @RC_st_35, @RC_bl_226_0_1_2, @RC_st_226, @RC_bl_251, @RC_st_251, @RC_cv_35_3, @RC_al_252, @RC_bl_252, @RC_st_252, @RC_ld_252⟩
open Go.Fx
set_option maxRecDepth 100000
theorem mixedX : Tryz.prog.follows .mixedOrders = true := by kernel_rfl
section
variable (P : Program) (w : World) (K : Value -> World -> Prop)
def F6 : Prop :=
 kV P (Instr.buildSlice 22 1 #[(0, (.int .u32 5243027))]) w fun v9 w =>
 kV P (Instr.build 43 #[(0, v9)]) w fun v10 w =>
 kN P (callN (.func (.func 7) #[] #[]) #[v10]) w fun v11 w =>
 kV P (Instr.extract v11 0) w fun v12 w =>
 kV P (Instr.extract v11 1) w fun v13 w =>
 kV P (Instr.extract v11 2) w fun v14 w =>
 kV P (Instr.alloc 32 true (.tuple #[])) w fun v2 w =>
 kU P (Instr.storeAt 32 v2 v13) w fun _ w =>
 kV P (Instr.build 37 #[(0, (.bool true)), (1, (.int .u64 17180917760))]) w fun v15 w =>
 kV P (Instr.alloc 37 true (.tuple #[])) w fun v4 w =>
 kU P (Instr.storeAt 37 v4 v15) w fun _ w =>
 kV P (Instr.loadAt 37 v4) w fun v17 w =>
 kN P (callN (.func (.func 8) #[] #[]) #[v17]) w fun v18 w =>
 kV P (Instr.build 52 #[(0, v12)]) w fun v20 w =>
 kV P (Instr.makeInterface 52 v20) w fun v21 w =>
 kN P (callN (.func (.func 9) #[] #[]) #[v18, v21]) w fun v22 w =>
 kV P (Instr.extract v22 0) w fun v23 w =>
 kV P (Instr.extract v22 1) w fun v24 w =>
 kV P (Instr.alloc 40 true (.tuple #[])) w fun v5 w =>
 kV P (Instr.alloc 48 true (.tuple #[])) w fun v6 w =>
 kU P (Instr.storeAt 40 v5 v23) w fun _ w =>
 kU P (Instr.storeAt 48 v6 v24) w fun _ w =>
 kV P (Instr.loadAt 40 v5) w fun v25 w =>
 kN P (callN (.func (.func 18) #[] #[]) #[v25]) w fun v26 w =>
 kV P (Instr.alloc 40 true (.tuple #[])) w fun v7 w =>
 kU P (Instr.storeAt 40 v7 v26) w fun _ w =>
 kV P (Instr.fieldAt 48 v6 0) w fun v27 w =>
 kV P (Instr.loadAt 3 v27) w fun v28 w =>
 kV P (binV .eql 3 (.tmp 28) (.const (.int .i64 0)) v28 (.int .i64 0)) w fun v29 w =>
 joinK (fun J0 : Value -> World -> Prop => gdK (yb v29) true (fun k => kV P (Instr.fieldAt 48 v6 3) w k) w fun v31 w =>
 gdK (yb v29) true (fun k => kV P (Instr.fieldAt 46 v31 0) w k) w fun v32 w =>
 gdK (yb v29) true (fun k => kV P (Instr.loadAt 3 v32) w k) w fun v33 w =>
 gdK (yb v29) true (fun k => kV P (binV .eql 3 (.tmp 33) (.const (.int .i64 22)) v33 (.int .i64 22)) w k) w fun v34 w =>
 kN P (pickN v29 v34 (.bool false)) w fun v35_1 w =>
 J0 v35_1 w) fun v35 w =>
 joinK (fun J1 : Value -> World -> Prop => gdK (yb v35) true (fun k => kV P (Instr.loadAt 40 v5) w k) w fun v37 w =>
 gdK (yb v35) true (fun k => kN P (callN (.func (.func 10) #[] #[]) #[v37, (.int .i64 1)]) w k) w fun v38 w =>
 gdK (yb v35) true (fun k => kN P (callN (.func (.func 11) #[] #[]) #[(.int .u64 5)]) w k) w fun v39 w =>
 gdK (yb v35) true (fun k => kV P (binV .eql 37 (.tmp 38) (.tmp 39) v38 v39) w k) w fun v40 w =>
 kN P (pickN v35 v40 (.bool false)) w fun v41_1 w =>
 J1 v41_1 w) fun v41 w =>
 joinK (fun J2 : Value -> World -> Prop => gdK (yb v41) true (fun k => kV P (Instr.fieldAt 40 v5 1) w k) w fun v43 w =>
 gdK (yb v41) true (fun k => kV P (Instr.fieldAt 37 v43 2) w k) w fun v44 w =>
 gdK (yb v41) true (fun k => kV P (Instr.loadAt 35 v44) w k) w fun v45 w =>
 gdK (yb v41) true (fun k => kV P (binV .eql 35 (.tmp 45) (.const (.int .u64 4)) v45 (.int .u64 4)) w k) w fun v46 w =>
 kN P (pickN v41 v46 (.bool false)) w fun v47_1 w =>
 J2 v47_1 w) fun v47 w =>
 joinK (fun J3 : Value -> World -> Prop => gdK (yb v47) true (fun k => kV P (Instr.fieldAt 40 v7 1) w k) w fun v49 w =>
 gdK (yb v47) true (fun k => kV P (Instr.fieldAt 37 v49 2) w k) w fun v50 w =>
 gdK (yb v47) true (fun k => kV P (Instr.loadAt 35 v50) w k) w fun v51 w =>
 gdK (yb v47) true (fun k => kV P (binV .eql 35 (.tmp 51) (.const (.int .u64 8)) v51 (.int .u64 8)) w k) w fun v52 w =>
 kN P (pickN v47 v52 (.bool false)) w fun v53_1 w =>
 J3 v53_1 w) fun v53 w =>
 K v53 w
theorem F6_eq : funE P ⟨[], [], []⟩ Tryz.f6 [] w K = F6 P w K  := by kernel_rfl
theorem F6_ok  (h : F6 Tryz.prog w K ) : callsK Tryz.prog 6 #[] w K := calls_of_eq mixedX Tryz.func6 (F6_eq _ w K ) h
def F8 (t0 : Value) : Prop :=
 kV P (Instr.box 37 t0) w fun v1 w =>
 kV P (Instr.alloc 40 true (.tuple #[])) w fun v2 w =>
 kV P (Instr.loadAt 37 v1) w fun v3 w =>
 kV P (Instr.build 40 #[(1, v3)]) w fun v4 w =>
 kU P (Instr.storeAt 40 v2 v4) w fun _ w =>
 retV P 40 v2 w fun r0 =>
 K r0 w
theorem F8_eq (t0 : Value) : funE P ⟨[], [], []⟩ Tryz.f8 [t0] w K = F8 P w K t0 := by kernel_rfl
theorem F8_ok (t0 : Value) (h : F8 Tryz.prog w K t0) : callsK Tryz.prog 8 #[t0] w K := calls_of_eq mixedX Tryz.func8 (F8_eq _ w K t0) h
def F9 (t0 t1 : Value) : Prop :=
 kV P (Instr.box 40 t0) w fun v2 w =>
 kV P (Instr.alloc 40 true (.tuple #[])) w fun v4 w =>
 kV P (Instr.alloc 48 true (.tuple #[])) w fun v5 w =>
 kV P (Instr.fieldAt 40 v2 1) w fun v13 w =>
 kV P (Instr.fieldAt 37 v13 2) w fun v14 w =>
 kV P (Instr.loadAt 35 v14) w fun v15 w =>
 joinL (fun J0 =>
 drewK (fun w =>
 relX fun R15 =>
 postX R15 (fun p15_16 => allX R15 w fun V15 w => True -> kV P (Instr.loadAt 40 v2) w (okX R15 w p15_16)) fun p15_16 =>
 postX R15 (fun p15_17 => allX R15 w fun V15 w => p15_16 (V15 16) w /\ True -> kN P (callN (.func (.func 18) #[] #[]) #[(V15 16)]) w (okX R15 w p15_17)) fun p15_17 =>
 postX R15 (fun p15_18 => allX R15 w fun V15 w => True -> kV P (Instr.loadAt 40 v2) w (okX R15 w p15_18)) fun p15_18 =>
 postX R15 (fun p15_19 => allX R15 w fun V15 w => True -> (okX R15 w p15_19) t1 w) fun p15_19 =>
 allX R15 w fun V15 w => p15_16 (V15 16) w /\ p15_17 (V15 17) w /\ p15_18 (V15 18) w /\ p15_19 (V15 19) w /\ True -> xDist V15 [] ->
 kV P (Instr.build 88 #[(0, (V15 17)), (1, (V15 18)), (2, (V15 19))]) w fun v20 w =>
 kV P (Instr.box 88 v20) w fun v21 w =>
 J0 [v21] w) w) fun s0 w => ∀ _ : Nat -> Value,
 kV P (Instr.fieldAt 40 v2 1) w fun v22 w =>
 kV P (Instr.loadAt 37 v22) w fun v23 w =>
 kN P (callN (.func (.func 25) #[] #[]) #[v23, (.int .i64 0), (.int .u64 4)]) w fun v24 w =>
 kV P (binV .neq 3 (.tmp 25) (.const (.int .i64 0)) v24 (.int .i64 0)) w fun v26 w =>
 condK v26
 (kN P (callN (.func (.func 26) #[] #[]) #[(s0.getD 0 undef), (.int .i64 5), v24, v15]) w fun v30 w =>
 kV P (Instr.extract v30 0) w fun v31 w =>
 kV P (Instr.extract v30 1) w fun v32 w =>
 kU P (Instr.storeAt 40 v4 v31) w fun _ w =>
 kU P (Instr.storeAt 48 v5 v32) w fun _ w =>
 retV P 40 v4 w fun r2 =>
 retV P 48 v5 w fun r3 =>
 K (.tuple #[r2, r3]) w)
 (kV P (binV .rem 35 (.tmp 33) (.const (.int .u64 4)) v15 (.int .u64 4)) w fun v34 w =>
 kV P (binV .neq 35 (.tmp 34) (.const (.int .u64 0)) v34 (.int .u64 0)) w fun v35 w =>
 condK v35
 (kN P (callN (.func (.func 26) #[] #[]) #[(s0.getD 0 undef), (.int .i64 4), (.int .i64 0), v15]) w fun v38 w =>
 kV P (Instr.extract v38 0) w fun v39 w =>
 kV P (Instr.extract v38 1) w fun v40 w =>
 kU P (Instr.storeAt 40 v4 v39) w fun _ w =>
 kU P (Instr.storeAt 48 v5 v40) w fun _ w =>
 retV P 40 v4 w fun r4 =>
 retV P 48 v5 w fun r5 =>
 K (.tuple #[r4, r5]) w)
 (kN P (callMethod t1 "Fetch" #[v15]) w fun v44 w =>
 kV P (Instr.extract v44 0) w fun v45 w =>
 kV P (Instr.extract v44 1) w fun v46 w =>
 kV P (binV .neq 3 (.tmp 47) (.const (.int .i64 0)) v46 (.int .i64 0)) w fun v48 w =>
 condK v48
 (kN P (callN (.func (.func 26) #[] #[]) #[(s0.getD 0 undef), (.int .i64 6), v46, v15]) w fun v52 w =>
 kV P (Instr.extract v52 0) w fun v53 w =>
 kV P (Instr.extract v52 1) w fun v54 w =>
 kU P (Instr.storeAt 40 v4 v53) w fun _ w =>
 kU P (Instr.storeAt 48 v5 v54) w fun _ w =>
 retV P 40 v4 w fun r6 =>
 retV P 48 v5 w fun r7 =>
 K (.tuple #[r6, r7]) w)
 (kN P (callN (.func (.func 27) #[] #[]) #[v45]) w fun v57 w =>
 kV P (Instr.extract v57 0) w fun v58 w =>
 kV P (Instr.extract v57 1) w fun v59 w =>
 kV P (Instr.alloc 46 true (.tuple #[])) w fun v11 w =>
 kU P (Instr.storeAt 46 v11 v58) w fun _ w =>
 kV P (Op.unary .not v59) w fun v61 w =>
 condK v61
 (kN P (callN (.func (.func 26) #[] #[]) #[(s0.getD 0 undef), (.int .i64 1), (.int .i64 0), v15]) w fun v64 w =>
 kV P (Instr.extract v64 0) w fun v65 w =>
 kV P (Instr.extract v64 1) w fun v66 w =>
 kU P (Instr.storeAt 40 v4 v65) w fun _ w =>
 kU P (Instr.storeAt 48 v5 v66) w fun _ w =>
 retV P 40 v4 w fun r8 =>
 retV P 48 v5 w fun r9 =>
 K (.tuple #[r8, r9]) w)
 (joinL (fun J10 =>
 drewK (fun w =>
 relX fun R14 =>
 postX R14 (fun p14_67 => allX R14 w fun V14 w => True -> (okX R14 w p14_67) (s0.getD 0 undef) w) fun p14_67 =>
 postX R14 (fun p14_68 => allX R14 w fun V14 w => True -> (okX R14 w p14_68) (s0.getD 0 undef) w) fun p14_68 =>
 postX R14 (fun p14_69 => allX R14 w fun V14 w => True -> (okX R14 w p14_69) (s0.getD 0 undef) w) fun p14_69 =>
 postX R14 (fun p14_70 => allX R14 w fun V14 w => True -> kV P (Instr.loadAt 46 v11) w (okX R14 w p14_70)) fun p14_70 =>
 postX R14 (fun p14_71 => allX R14 w fun V14 w => True -> kV P (Instr.loadAt 40 v2) w (okX R14 w p14_71)) fun p14_71 =>
 postX R14 (fun p14_72 => allX R14 w fun V14 w => True -> kV P (Instr.fieldAt 46 v11 2) w (okX R14 w p14_72)) fun p14_72 =>
 postX R14 (fun p14_73 => allX R14 w fun V14 w => p14_72 (V14 72) w /\ True -> kV P (Instr.loadAt 3 (V14 72)) w (okX R14 w p14_73)) fun p14_73 =>
 postX R14 (fun p14_74 => allX R14 w fun V14 w => p14_71 (V14 71) w /\ p14_73 (V14 73) w /\ True -> kN P (callN (.func (.func 10) #[] #[]) #[(V14 71), (V14 73)]) w (okX R14 w p14_74)) fun p14_74 =>
 postX R14 (fun p14_75 => allX R14 w fun V14 w => True -> kV P (Instr.loadAt 40 v2) w (okX R14 w p14_75)) fun p14_75 =>
 postX R14 (fun p14_76 => allX R14 w fun V14 w => True -> kV P (Instr.fieldAt 46 v11 3) w (okX R14 w p14_76)) fun p14_76 =>
 postX R14 (fun p14_77 => allX R14 w fun V14 w => p14_76 (V14 76) w /\ True -> kV P (Instr.loadAt 3 (V14 76)) w (okX R14 w p14_77)) fun p14_77 =>
 postX R14 (fun p14_78 => allX R14 w fun V14 w => p14_74 (V14 74) w /\ p14_75 (V14 75) w /\ p14_77 (V14 77) w /\ True -> kN P (callN (.func (.func 10) #[] #[]) #[(V14 75), (V14 77)]) w (okX R14 w p14_78)) fun p14_78 =>
 postX R14 (fun p14_79 => allX R14 w fun V14 w => p14_67 (V14 67) w /\ p14_70 (V14 70) w /\ p14_74 (V14 74) w /\ p14_78 (V14 78) w /\ True -> kN P (nilN (V14 67)) w (okX R14 w p14_79)) fun p14_79 =>
 postX R14 (fun p14_80 => allX R14 w fun V14 w => p14_67 (V14 67) w /\ p14_70 (V14 70) w /\ p14_74 (V14 74) w /\ p14_78 (V14 78) w /\ p14_79 (V14 79) w /\ True -> kV P (Instr.fieldAt 88 (V14 79) 3) w (okX R14 w p14_80)) fun p14_80 =>
 postX R14 (fun p14_n14 => allX R14 w fun V14 w => p14_67 (V14 67) w /\ p14_70 (V14 70) w /\ p14_74 (V14 74) w /\ p14_78 (V14 78) w /\ p14_80 (V14 80) w /\ True -> kU P (Instr.storeAt 46 (V14 80) (V14 70)) w (okX R14 w (fun _ => p14_n14 (V14 80)))) fun p14_n14 =>
 postX R14 (fun p14_81 => allX R14 w fun V14 w => p14_67 (V14 67) w /\ p14_68 (V14 68) w /\ p14_70 (V14 70) w /\ p14_71 (V14 71) w /\ p14_72 (V14 72) w /\ p14_73 (V14 73) w /\ p14_74 (V14 74) w /\ p14_78 (V14 78) w /\ p14_79 (V14 79) w /\ p14_80 (V14 80) w /\ p14_n14 (V14 80) w /\ True -> kN P (nilN (V14 68)) w (okX R14 w p14_81)) fun p14_81 =>
 postX R14 (fun p14_82 => allX R14 w fun V14 w => p14_67 (V14 67) w /\ p14_68 (V14 68) w /\ p14_70 (V14 70) w /\ p14_71 (V14 71) w /\ p14_72 (V14 72) w /\ p14_73 (V14 73) w /\ p14_74 (V14 74) w /\ p14_78 (V14 78) w /\ p14_79 (V14 79) w /\ p14_80 (V14 80) w /\ p14_n14 (V14 80) w /\ p14_81 (V14 81) w /\ True -> kV P (Instr.fieldAt 88 (V14 81) 4) w (okX R14 w p14_82)) fun p14_82 =>
 postX R14 (fun p14_n17 => allX R14 w fun V14 w => p14_67 (V14 67) w /\ p14_68 (V14 68) w /\ p14_70 (V14 70) w /\ p14_71 (V14 71) w /\ p14_72 (V14 72) w /\ p14_73 (V14 73) w /\ p14_74 (V14 74) w /\ p14_78 (V14 78) w /\ p14_79 (V14 79) w /\ p14_80 (V14 80) w /\ p14_n14 (V14 80) w /\ p14_82 (V14 82) w /\ True -> kU P (Instr.storeAt 37 (V14 82) (V14 74)) w (okX R14 w (fun _ => p14_n17 (V14 82)))) fun p14_n17 =>
 allX R14 w fun V14 w => p14_67 (V14 67) w /\ p14_68 (V14 68) w /\ p14_69 (V14 69) w /\ p14_70 (V14 70) w /\ p14_71 (V14 71) w /\ p14_72 (V14 72) w /\ p14_73 (V14 73) w /\ p14_74 (V14 74) w /\ p14_75 (V14 75) w /\ p14_76 (V14 76) w /\ p14_77 (V14 77) w /\ p14_78 (V14 78) w /\ p14_79 (V14 79) w /\ p14_80 (V14 80) w /\ p14_n14 (V14 80) w /\ p14_81 (V14 81) w /\ p14_82 (V14 82) w /\ p14_n17 (V14 82) w /\ True -> xDist V14 [] ->
 kN P (nilN (V14 69)) w fun v83 w =>
 kV P (Instr.fieldAt 88 v83 5) w fun v84 w =>
 kU P (Instr.storeAt 37 v84 (V14 78)) w fun _ w =>
 J10 [] w) w) fun s10 w => ∀ _ : Nat -> Value,
 kN P (callN (.func (.func 28) #[] #[]) #[(s0.getD 0 undef)]) w fun v86 w =>
 kV P (Instr.extract v86 0) w fun v87 w =>
 kV P (Instr.extract v86 1) w fun v88 w =>
 kU P (Instr.storeAt 40 v4 v87) w fun _ w =>
 kU P (Instr.storeAt 48 v5 v88) w fun _ w =>
 retV P 40 v4 w fun r12 =>
 retV P 48 v5 w fun r13 =>
 K (.tuple #[r12, r13]) w))))
theorem F9_eq (t0 t1 : Value) : funE P ⟨[(2, 1004), (14, 1018)], [], [(3, [7]), (15, [])]⟩ Tryz.f9 [t0, t1] w K = F9 P w K t0 t1 := by kernel_rfl
theorem F9_ok (t0 t1 : Value) (h : F9 Tryz.prog w K t0 t1) : callsK Tryz.prog 9 #[t0, t1] w K := calls_of_eq mixedX Tryz.func9 (F9_eq _ w K t0 t1) h
def F10 (t0 t1 : Value) : Prop :=
 kV P (Instr.box 40 t0) w fun v2 w =>
 kV P (Instr.alloc 37 true (.tuple #[])) w fun v4 w =>
 kN P (callN (.func (.func 29) #[] #[]) #[t1]) w fun v6 w =>
 kV P (Op.unary .not v6) w fun v7 w =>
 condK v7
 (kV P (Instr.build 37 #[]) w fun v8 w =>
 kU P (Instr.storeAt 37 v4 v8) w fun _ w =>
 retV P 37 v4 w fun r0 =>
 K r0 w)
 (kV P (Instr.fieldAt 40 v2 0) w fun v10 w =>
 kV P (Instr.indexAt 38 v10 t1) w fun v11 w =>
 kV P (Instr.loadAt 37 v11) w fun v12 w =>
 kU P (Instr.storeAt 37 v4 v12) w fun _ w =>
 retV P 37 v4 w fun r1 =>
 K r1 w)
theorem F10_eq (t0 t1 : Value) : funE P ⟨[], [], []⟩ Tryz.f10 [t0, t1] w K = F10 P w K t0 t1 := by kernel_rfl
theorem F10_ok (t0 t1 : Value) (h : F10 Tryz.prog w K t0 t1) : callsK Tryz.prog 10 #[t0, t1] w K := calls_of_eq mixedX Tryz.func10 (F10_eq _ w K t0 t1) h
def F11 (t0 : Value) : Prop :=
 kV P (Instr.alloc 37 true (.tuple #[])) w fun v2 w =>
 kV P (Instr.build 37 #[(2, t0)]) w fun v4 w =>
 kU P (Instr.storeAt 37 v2 v4) w fun _ w =>
 retV P 37 v2 w fun r0 =>
 K r0 w
theorem F11_eq (t0 : Value) : funE P ⟨[], [], []⟩ Tryz.f11 [t0] w K = F11 P w K t0 := by kernel_rfl
theorem F11_ok (t0 : Value) (h : F11 Tryz.prog w K t0) : callsK Tryz.prog 11 #[t0] w K := calls_of_eq mixedX Tryz.func11 (F11_eq _ w K t0) h
def F17 (t0 : Value) : Prop :=
 kV P (Instr.box 46 t0) w fun v1 w =>
 kV P (Instr.fieldAt 46 v1 0) w fun v14 w =>
 kV P (Instr.loadAt 3 v14) w fun v15 w =>
 kN P (callN (.func (.func 45) #[] #[]) #[v15]) w fun v16 w =>
 kV P (Instr.extract v16 0) w fun v17 w =>
 kV P (Instr.extract v16 1) w fun v18 w =>
 kV P (Instr.alloc 114 true (.tuple #[])) w fun v4 w =>
 kU P (Instr.storeAt 114 v4 v17) w fun _ w =>
 joinL (fun J0 =>
 drewK (fun w =>
 pV P (Op.unary .not v18) fun v20 =>
 gdP (yb v20) false (fun k => pV P (Instr.fieldAt 114 v4 1) k) fun v22 =>
 gdP (yb v20) false (fun k => pV P (Instr.fieldAt 46 v1 4) k) fun v25 =>
 (gdK (yb v20) false (fun k => kV P (Instr.loadAt 5 v22) w k) w fun v23 w =>
 (gdK (yb v20) false (fun k => kN P (callN (.func (.func 46) #[] #[]) #[v23]) w k) w fun v24 w =>
 gdK (yb v20) false (fun k => kV P (Instr.loadAt 2 v25) w k) w fun v26 w =>
 gdK (yb v20) false (fun k => kN P (callN (.func (.func 47) #[] #[]) #[v24, v26]) w k) w fun v27 w =>
 gdP (yb v20) false (fun k => pV P (Op.unary .not v27) k) fun v28 =>
 pN P (pickN v20 (.bool true) v28) fun v29 =>
 J0 [v29] w) /\
 (gdK (yb v20) false (fun k => kV P (Instr.loadAt 2 v25) w k) w fun v26_1 w =>
 gdK (yb v20) false (fun k => kN P (callN (.func (.func 46) #[] #[]) #[v23]) w k) w fun v24_1 w =>
 gdK (yb v20) false (fun k => kN P (callN (.func (.func 47) #[] #[]) #[v24_1, v26_1]) w k) w fun v27_1 w =>
 gdP (yb v20) false (fun k => pV P (Op.unary .not v27_1) k) fun v28_1 =>
 pN P (pickN v20 (.bool true) v28_1) fun v29_1 =>
 J0 [v29_1] w)) /\
 (gdK (yb v20) false (fun k => kV P (Instr.loadAt 2 v25) w k) w fun v26_2 w =>
 gdK (yb v20) false (fun k => kV P (Instr.loadAt 5 v22) w k) w fun v23_1 w =>
 gdK (yb v20) false (fun k => kN P (callN (.func (.func 46) #[] #[]) #[v23_1]) w k) w fun v24_2 w =>
 gdK (yb v20) false (fun k => kN P (callN (.func (.func 47) #[] #[]) #[v24_2, v26_2]) w k) w fun v27_2 w =>
 gdP (yb v20) false (fun k => pV P (Op.unary .not v27_2) k) fun v28_2 =>
 pN P (pickN v20 (.bool true) v28_2) fun v29_2 =>
 J0 [v29_2] w)) w) fun s0 w => ∀ _ : Nat -> Value,
 condK (s0.getD 0 undef)
 (K (.tuple #[(.int .u32 0), (.bool false)]) w)
 (kV P (Instr.loadAt 114 v4) w fun v31 w =>
 kN P (callN (.func (.func 48) #[] #[]) #[v31]) w fun v32 w =>
 kV P (Instr.extract v32 0) w fun v33 w =>
 kV P (Instr.extract v32 1) w fun v34 w =>
 kV P (Instr.fieldAt 114 v4 1) w fun v36 w =>
 kV P (Instr.loadAt 5 v36) w fun v37 w =>
 kN P (callN (.func (.func 49) #[] #[]) #[v37]) w fun v38 w =>
 kV P (Instr.extract v38 0) w fun v39 w =>
 kV P (Instr.extract v38 1) w fun v40 w =>
 kV P (Instr.extract v38 2) w fun v41 w =>
 joinL (fun J2 =>
 drewK (fun w =>
 pV P (Instr.fieldAt 114 v4 1) fun v42 =>
 pV P (Instr.fieldAt 46 v1 4) fun v46 =>
 (kV P (Instr.loadAt 5 v42) w fun v43 w =>
 (kN P (callN (.func (.func 46) #[] #[]) #[v43]) w fun v44 w =>
 kV P (Instr.loadAt 2 v46) w fun v47 w =>
 kN P (callN (.func (.func 50) #[] #[]) #[v44, v33, v47]) w fun v48 w =>
 J2 [v48] w) /\
 (kV P (Instr.loadAt 2 v46) w fun v47_1 w =>
 kN P (callN (.func (.func 46) #[] #[]) #[v43]) w fun v44_1 w =>
 kN P (callN (.func (.func 50) #[] #[]) #[v44_1, v33, v47_1]) w fun v48_1 w =>
 J2 [v48_1] w)) /\
 (kV P (Instr.loadAt 2 v46) w fun v47_2 w =>
 kV P (Instr.loadAt 5 v42) w fun v43_1 w =>
 kN P (callN (.func (.func 46) #[] #[]) #[v43_1]) w fun v44_2 w =>
 kN P (callN (.func (.func 50) #[] #[]) #[v44_2, v33, v47_2]) w fun v48_2 w =>
 J2 [v48_2] w)) w) fun s2 w => ∀ _ : Nat -> Value,
 kV P (Instr.fieldAt 46 v1 1) w fun v50 w =>
 kV P (Instr.loadAt 3 v50) w fun v51 w =>
 kV P (Instr.build 127 #[(0, v39), (1, (.int .i64 7)), (2, v51)]) w fun v52 w =>
 kV P (Instr.fieldAt 46 v1 2) w fun v54 w =>
 kV P (Instr.loadAt 3 v54) w fun v55 w =>
 kV P (Instr.build 127 #[(0, v40), (1, (.int .i64 15)), (2, v55)]) w fun v56 w =>
 kV P (Instr.fieldAt 46 v1 3) w fun v58 w =>
 kV P (Instr.loadAt 3 v58) w fun v59 w =>
 kV P (Instr.build 127 #[(0, v41), (1, (.int .i64 20)), (2, v59)]) w fun v60 w =>
 kV P (Instr.build 128 #[(0, v52), (1, v56), (2, v60)]) w fun v61 w =>
 loopT (fun R4 s4 w => ∀ _ : Nat -> Value,
 kV P (binV .lss 3 (.tmp 62) (.const (.int .i64 3)) (s4.getD 1 undef) (.int .i64 3)) w fun v63 w =>
 condK v63
 (joinL (fun J6 =>
 kV P (Instr.index 128 v61 (s4.getD 1 undef)) w fun v64 w =>
 kV P (Instr.alloc 127 true (.tuple #[])) w fun v12 w =>
 kU P (Instr.storeAt 127 v12 v64) w fun _ w =>
 kV P (Instr.fieldAt 127 v12 0) w fun v65 w =>
 kV P (Instr.loadAt 4 v65) w fun v66 w =>
 joinK (fun J8 : Value -> World -> Prop => gdK (yb v66) true (fun k => kV P (Instr.fieldAt 127 v12 2) w k) w fun v68 w =>
 gdK (yb v66) true (fun k => kV P (Instr.loadAt 3 v68) w k) w fun v69 w =>
 gdK (yb v66) true (fun k => kN P (callN (.func (.func 51) #[] #[]) #[v69, (.int .i64 5), (.bool false)]) w k) w fun v70 w =>
 gdK (yb v66) true (fun k => kV P (Op.unary .not v70) w k) w fun v71 w =>
 kN P (pickN v66 v71 (.bool false)) w fun v72_1 w =>
 J8 v72_1 w) fun v72 w =>
 condK v72
 (K (.tuple #[(.int .u32 0), (.bool false)]) w)
 (kV P (Instr.fieldAt 127 v12 0) w fun v73 w =>
 kV P (Instr.loadAt 4 v73) w fun v74 w =>
 condK v74
 (kV P (Instr.fieldAt 127 v12 1) w fun v76 w =>
 kV P (Instr.loadAt 3 v76) w fun v77 w =>
 kV P (Instr.fieldAt 127 v12 2) w fun v78 w =>
 kV P (Instr.loadAt 3 v78) w fun v79 w =>
 kV P (convert 3 35 v79) w fun v80 w =>
 kN P (callN (.func (.func 52) #[] #[]) #[(s4.getD 0 undef), v77, (.int .i64 5), v80]) w fun v81 w =>
 J6 [v81] w)
 (J6 [(s4.getD 0 undef)] w))) fun s6 w => ∀ _ : Nat -> Value,
 kV P (binV .add 3 (.tmp 62) (.const (.int .i64 1)) (s4.getD 1 undef) (.int .i64 1)) w fun v82 w =>
 R4 [(s6.getD 0 undef), v82] w)
 (kV P (convert 35 71 (s4.getD 0 undef)) w fun v84 w =>
 K (.tuple #[v84, (.bool true)]) w)) [(s2.getD 0 undef), (.int .i64 0)] w)
theorem F17_eq (t0 : Value) : funE P ⟨[(2, 999), (6, 999)], [(8, [6, 62])], [(3, [29]), (7, [6]), (14, [6])]⟩ Tryz.f17 [t0] w K = F17 P w K t0 := by kernel_rfl
theorem F17_ok (t0 : Value) (h : F17 Tryz.prog w K t0) : callsK Tryz.prog 17 #[t0] w K := calls_of_eq mixedX Tryz.func17 (F17_eq _ w K t0) h
def F18 (t0 : Value) : Prop :=
 kV P (Instr.box 40 t0) w fun v1 w =>
 kV P (Instr.alloc 40 true (.tuple #[])) w fun v2 w =>
 kV P (Instr.fieldAt 40 v1 1) w fun v3 w =>
 kV P (Instr.loadAt 37 v3) w fun v4 w =>
 kN P (callN (.func (.func 53) #[] #[]) #[v4, (.int .u64 4)]) w fun v5 w =>
 kV P (Instr.fieldAt 40 v1 1) w fun v6 w =>
 kU P (Instr.storeAt 37 v6 v5) w fun _ w =>
 kV P (Instr.loadAt 40 v1) w fun v7 w =>
 kU P (Instr.storeAt 40 v2 v7) w fun _ w =>
 retV P 40 v2 w fun r0 =>
 K r0 w
theorem F18_eq (t0 : Value) : funE P ⟨[], [], []⟩ Tryz.f18 [t0] w K = F18 P w K t0 := by kernel_rfl
theorem F18_ok (t0 : Value) (h : F18 Tryz.prog w K t0) : callsK Tryz.prog 18 #[t0] w K := calls_of_eq mixedX Tryz.func18 (F18_eq _ w K t0) h
def F20 (t0 : Value) : Prop :=
 kV P (Instr.alloc 32 true (.tuple #[])) w fun v2 w =>
 kV P (binV .lss 3 (.tmp 4) (.const (.int .i64 1)) t0 (.int .i64 1)) w fun v5 w =>
 joinK (fun J0 : Value -> World -> Prop => gdK (yb v5) false (fun k => k t0 w) w fun v7 w =>
 gdK (yb v5) false (fun k => kV P (binV .gtr 3 (.tmp 7) (.const (.int .i64 64)) v7 (.int .i64 64)) w k) w fun v8 w =>
 kN P (pickN v5 (.bool true) v8) w fun v9_1 w =>
 J0 v9_1 w) fun v9 w =>
 condK v9
 (kV P (Instr.build 32 #[]) w fun v10 w =>
 kU P (Instr.storeAt 32 v2 v10) w fun _ w =>
 retV P 32 v2 w fun r1 =>
 K (.tuple #[r1, (.int .i64 2)]) w)
 (kV P (Instr.build 32 #[(0, t0)]) w fun v12 w =>
 kU P (Instr.storeAt 32 v2 v12) w fun _ w =>
 retV P 32 v2 w fun r2 =>
 K (.tuple #[r2, (.int .i64 0)]) w)
theorem F20_eq (t0 : Value) : funE P ⟨[], [], []⟩ Tryz.f20 [t0] w K = F20 P w K t0 := by kernel_rfl
theorem F20_ok (t0 : Value) (h : F20 Tryz.prog w K t0) : callsK Tryz.prog 20 #[t0] w K := calls_of_eq mixedX Tryz.func20 (F20_eq _ w K t0) h
def F22 (t0 t1 t2 t3 : Value) : Prop :=
 kV P (Instr.box 32 t0) w fun v4 w =>
 kV P (Instr.alloc 32 true (.tuple #[])) w fun v8 w =>
 kV P (Instr.loadAt 32 v4) w fun v11 w =>
 kN P (callN (.func (.func 60) #[] #[]) #[v11, t1, t2]) w fun v14 w =>
 kV P (Op.unary .not v14) w fun v15 w =>
 condK v15
 (kV P (Instr.loadAt 32 v4) w fun v16 w =>
 kU P (Instr.storeAt 32 v8 v16) w fun _ w =>
 retV P 32 v8 w fun r0 =>
 K (.tuple #[r0, (.int .i64 2)]) w)
 (loopT (fun R1 s1 w => ∀ _ : Nat -> Value,
 kV P (binV .lss 3 (.tmp 17) (.tmp 18) (s1.getD 0 undef) t2) w fun v19 w =>
 condK v19
 (kV P (Instr.loadAt 32 v4) w fun v22 w =>
 kV P (convert 3 35 (s1.getD 0 undef)) w fun v25 w =>
 kV P (binV .add 35 (.tmp 23) (.tmp 25) t1 v25) w fun v26 w =>
 kV P (binV .mul 3 (.const (.int .i64 8)) (.tmp 28) (.int .i64 8) (s1.getD 0 undef)) w fun v29 w =>
 kV P (convert 3 151 v29) w fun v30 w =>
 kV P (binV .shr 35 (.tmp 27) (.tmp 30) t3 v30) w fun v31 w =>
 kV P (convert 35 5 v31) w fun v32 w =>
 kN P (callN (.func (.func 61) #[] #[]) #[v22, v26, v32]) w fun v33 w =>
 kU P (Instr.storeAt 32 v4 v33) w fun _ w =>
 kV P (binV .add 3 (.tmp 20) (.const (.int .i64 1)) (s1.getD 0 undef) (.int .i64 1)) w fun v21 w =>
 R1 [v21] w)
 (kV P (Instr.loadAt 32 v4) w fun v34 w =>
 kU P (Instr.storeAt 32 v8 v34) w fun _ w =>
 retV P 32 v8 w fun r3 =>
 K (.tuple #[r3, (.int .i64 0)]) w)) [(.int .i64 0)] w)
theorem F22_eq (t0 t1 t2 t3 : Value) : funE P ⟨[], [(4, [10])], []⟩ Tryz.f22 [t0, t1, t2, t3] w K = F22 P w K t0 t1 t2 t3 := by kernel_rfl
theorem F22_ok (t0 t1 t2 t3 : Value) (h : F22 Tryz.prog w K t0 t1 t2 t3) : callsK Tryz.prog 22 #[t0, t1, t2, t3] w K := calls_of_eq mixedX Tryz.func22 (F22_eq _ w K t0 t1 t2 t3) h
def F25 (t0 t1 t2 : Value) : Prop :=
 kV P (Instr.box 37 t0) w fun v3 w =>
 kV P (Instr.loadAt 37 v3) w fun v8 w =>
 kN P (callN (.func (.func 66) #[] #[]) #[v8]) w fun v9 w =>
 kV P (Instr.alloc 162 true (.tuple #[])) w fun v7 w =>
 kU P (Instr.storeAt 162 v7 v9) w fun _ w =>
 kV P (Instr.fieldAt 162 v7 2) w fun v11 w =>
 kV P (Instr.loadAt 4 v11) w fun v12 w =>
 kV P (Op.unary .not v12) w fun v13 w =>
 condK v13
 (K (.int .i64 1) w)
 (kV P (Instr.loadAt 162 v7) w fun v15 w =>
 kN P (callN (.func (.func 67) #[] #[]) #[v15]) w fun v16 w =>
 kV P (Op.unary .not v16) w fun v17 w =>
 condK v17
 (K (.int .i64 2) w)
 (drewK (fun w =>
 sN P (callN (.func (.func 69) #[] #[]) #[t1]) w fun v20 =>
 sV P (Instr.fieldAt 162 v7 1) w fun v21 =>
 sV P (Instr.fieldAt 160 v21 1) w fun v22 =>
 sV P (Instr.loadAt 35 v22) w fun v23 =>
 sN P (callN (.func (.func 68) #[] #[]) #[v20, v23]) w fun v24 =>
 sV P (Op.unary .not v24) w fun v25 =>
 condK v25
 (K (.int .i64 3) w)
 (kV P (Instr.fieldAt 37 v3 2) w fun v27 w =>
 kV P (Instr.loadAt 35 v27) w fun v28 w =>
 kV P (Instr.fieldAt 162 v7 1) w fun v30 w =>
 kV P (Instr.fieldAt 160 v30 0) w fun v31 w =>
 kV P (Instr.fieldAt 158 v31 0) w fun v32 w =>
 kV P (Instr.loadAt 35 v32) w fun v33 w =>
 kV P (Instr.fieldAt 162 v7 1) w fun v34 w =>
 kV P (Instr.fieldAt 160 v34 0) w fun v35 w =>
 kV P (Instr.fieldAt 158 v35 1) w fun v36 w =>
 kV P (Instr.loadAt 35 v36) w fun v37 w =>
 kN P (callN (.func (.func 70) #[] #[]) #[v28, t2, v33, v37]) w fun v38 w =>
 kV P (Op.unary .not v38) w fun v39 w =>
 condK v39
 (K (.int .i64 4) w)
 (K (.int .i64 0) w))) w))
theorem F25_eq (t0 t1 t2 : Value) : funE P ⟨[], [], []⟩ Tryz.f25 [t0, t1, t2] w K = F25 P w K t0 t1 t2 := by kernel_rfl
theorem F25_ok (t0 t1 t2 : Value) (h : F25 Tryz.prog w K t0 t1 t2) : callsK Tryz.prog 25 #[t0, t1, t2] w K := calls_of_eq mixedX Tryz.func25 (F25_eq _ w K t0 t1 t2) h
def F26 (t0 t1 t2 t3 : Value) : Prop :=
 kV P (Instr.alloc 40 true (.tuple #[])) w fun v8 w =>
 kV P (Instr.alloc 48 true (.tuple #[])) w fun v9 w =>
 drewK (fun w =>
 relX fun R0 =>
 postX R0 (fun p0_10 => allX R0 w fun V0 w => True -> (okX R0 w p0_10) t0 w) fun p0_10 =>
 postX R0 (fun p0_11 => allX R0 w fun V0 w => p0_10 (V0 10) w /\ True -> kN P (nilN (V0 10)) w (okX R0 w p0_11)) fun p0_11 =>
 postX R0 (fun p0_12 => allX R0 w fun V0 w => p0_11 (V0 11) w /\ True -> kV P (Instr.fieldAt 88 (V0 11) 1) w (okX R0 w p0_12)) fun p0_12 =>
 postX R0 (fun p0_13 => allX R0 w fun V0 w => p0_12 (V0 12) w /\ True -> kV P (Instr.loadAt 40 (V0 12)) w (okX R0 w p0_13)) fun p0_13 =>
 postX R0 (fun p0_14 => allX R0 w fun V0 w => True -> (okX R0 w p0_14) t1 w) fun p0_14 =>
 postX R0 (fun p0_15 => allX R0 w fun V0 w => True -> (okX R0 w p0_15) t2 w) fun p0_15 =>
 postX R0 (fun p0_16 => allX R0 w fun V0 w => True -> (okX R0 w p0_16) t3 w) fun p0_16 =>
 postX R0 (fun p0_17 => allX R0 w fun V0 w => True -> (okX R0 w p0_17) t0 w) fun p0_17 =>
 postX R0 (fun p0_18 => allX R0 w fun V0 w => p0_17 (V0 17) w /\ True -> kN P (nilN (V0 17)) w (okX R0 w p0_18)) fun p0_18 =>
 postX R0 (fun p0_19 => allX R0 w fun V0 w => p0_18 (V0 18) w /\ True -> kV P (Instr.fieldAt 88 (V0 18) 3) w (okX R0 w p0_19)) fun p0_19 =>
 postX R0 (fun p0_20 => allX R0 w fun V0 w => p0_19 (V0 19) w /\ True -> kV P (Instr.loadAt 46 (V0 19)) w (okX R0 w p0_20)) fun p0_20 =>
 postX R0 (fun p0_21 => allX R0 w fun V0 w => p0_14 (V0 14) w /\ p0_15 (V0 15) w /\ p0_16 (V0 16) w /\ p0_20 (V0 20) w /\ True -> kV P (Instr.build 48 #[(0, (V0 14)), (1, (V0 15)), (2, (V0 16)), (3, (V0 20))]) w (okX R0 w p0_21)) fun p0_21 =>
 postX R0 (fun p0_n12 => allX R0 w fun V0 w => p0_10 (V0 10) w /\ p0_11 (V0 11) w /\ p0_12 (V0 12) w /\ p0_13 (V0 13) w /\ True -> kU P (Instr.storeAt 40 v8 (V0 13)) w (okX R0 w p0_n12)) fun p0_n12 =>
 allX R0 w fun V0 w => p0_10 (V0 10) w /\ p0_11 (V0 11) w /\ p0_12 (V0 12) w /\ p0_13 (V0 13) w /\ p0_14 (V0 14) w /\ p0_15 (V0 15) w /\ p0_16 (V0 16) w /\ p0_17 (V0 17) w /\ p0_18 (V0 18) w /\ p0_19 (V0 19) w /\ p0_20 (V0 20) w /\ p0_21 (V0 21) w /\ (∃ u, p0_n12 u w) /\ True -> xDist V0 [] ->
 kU P (Instr.storeAt 48 v9 (V0 21)) w fun _ w =>
 retV P 40 v8 w fun r1 =>
 retV P 48 v9 w fun r2 =>
 K (.tuple #[r1, r2]) w) w
theorem F26_eq (t0 t1 t2 t3 : Value) : funE P ⟨[(1, 1013)], [], []⟩ Tryz.f26 [t0, t1, t2, t3] w K = F26 P w K t0 t1 t2 t3 := by kernel_rfl
theorem F26_ok (t0 t1 t2 t3 : Value) (h : F26 Tryz.prog w K t0 t1 t2 t3) : callsK Tryz.prog 26 #[t0, t1, t2, t3] w K := calls_of_eq mixedX Tryz.func26 (F26_eq _ w K t0 t1 t2 t3) h
def F27 (t0 : Value) : Prop :=
 kV P (Instr.alloc 46 true (.tuple #[])) w fun v2 w =>
 kV P (convert 71 35 t0) w fun v14 w =>
 kN P (callN (.func (.func 71) #[] #[]) #[]) w fun v15 w =>
 loopT (fun R0 s0 w => ∀ _ : Nat -> Value,
 kV P (binV .lss 3 (.tmp 16) (.const (.int .i64 69)) (s0.getD 0 undef) (.int .i64 69)) w fun v17 w =>
 condK v17
 (kV P (Instr.index 167 v15 (s0.getD 0 undef)) w fun v19 w =>
 kV P (Instr.alloc 114 true (.tuple #[])) w fun v6 w =>
 kU P (Instr.storeAt 114 v6 v19) w fun _ w =>
 kV P (Instr.loadAt 114 v6) w fun v21 w =>
 kN P (callN (.func (.func 48) #[] #[]) #[v21]) w fun v22 w =>
 kV P (Instr.extract v22 0) w fun v23 w =>
 kV P (Instr.extract v22 1) w fun v24 w =>
 kV P (binV .and 35 (.tmp 25) (.tmp 26) v14 v24) w fun v27 w =>
 kV P (binV .neq 35 (.tmp 27) (.tmp 28) v27 v23) w fun v29 w =>
 condK v29
 (kV P (binV .add 3 (.tmp 16) (.const (.int .i64 1)) (s0.getD 0 undef) (.int .i64 1)) w fun v61 w =>
 R0 [v61] w)
 (kV P (binV .add 3 (.tmp 30) (.const (.int .i64 1)) (s0.getD 0 undef) (.int .i64 1)) w fun v31 w =>
 kV P (Instr.fieldAt 114 v6 1) w fun v32 w =>
 kV P (Instr.loadAt 5 v32) w fun v33 w =>
 kN P (callN (.func (.func 46) #[] #[]) #[v33]) w fun v34 w =>
 kN P (callN (.func (.func 72) #[] #[]) #[v34, v14]) w fun v36 w =>
 kV P (Instr.build 46 #[(0, v31), (4, v36)]) w fun v37 w =>
 kV P (Instr.alloc 46 true (.tuple #[])) w fun v9 w =>
 kU P (Instr.storeAt 46 v9 v37) w fun _ w =>
 kV P (Instr.fieldAt 114 v6 1) w fun v39 w =>
 kV P (Instr.loadAt 5 v39) w fun v40 w =>
 kN P (callN (.func (.func 49) #[] #[]) #[v40]) w fun v41 w =>
 kV P (Instr.extract v41 0) w fun v42 w =>
 kV P (Instr.extract v41 1) w fun v43 w =>
 kV P (Instr.extract v41 2) w fun v44 w =>
 joinL (fun J2 =>
 condK v42
 (kN P (callN (.func (.func 73) #[] #[]) #[v14, (.int .i64 7), (.int .i64 5)]) w fun v47 w =>
 kV P (convert 35 3 v47) w fun v48 w =>
 kV P (Instr.fieldAt 46 v9 1) w fun v49 w =>
 kU P (Instr.storeAt 3 v49 v48) w fun _ w =>
 J2 [] w)
 (J2 [] w)) fun s2 w => ∀ _ : Nat -> Value,
 joinL (fun J4 =>
 condK v43
 (kN P (callN (.func (.func 73) #[] #[]) #[v14, (.int .i64 15), (.int .i64 5)]) w fun v52 w =>
 kV P (convert 35 3 v52) w fun v53 w =>
 kV P (Instr.fieldAt 46 v9 2) w fun v54 w =>
 kU P (Instr.storeAt 3 v54 v53) w fun _ w =>
 J4 [] w)
 (J4 [] w)) fun s4 w => ∀ _ : Nat -> Value,
 joinL (fun J6 =>
 condK v44
 (kN P (callN (.func (.func 73) #[] #[]) #[v14, (.int .i64 20), (.int .i64 5)]) w fun v57 w =>
 kV P (convert 35 3 v57) w fun v58 w =>
 kV P (Instr.fieldAt 46 v9 3) w fun v59 w =>
 kU P (Instr.storeAt 3 v59 v58) w fun _ w =>
 J6 [] w)
 (J6 [] w)) fun s6 w => ∀ _ : Nat -> Value,
 kV P (Instr.loadAt 46 v9) w fun v60 w =>
 kU P (Instr.storeAt 46 v2 v60) w fun _ w =>
 retV P 46 v2 w fun r8 =>
 K (.tuple #[r8, (.bool true)]) w))
 (kV P (Instr.build 46 #[]) w fun v62 w =>
 kU P (Instr.storeAt 46 v2 v62) w fun _ w =>
 retV P 46 v2 w fun r9 =>
 K (.tuple #[r9, (.bool false)]) w)) [(.int .i64 0)] w
theorem F27_eq (t0 : Value) : funE P ⟨[], [(3, [16])], [(11, []), (13, []), (15, [])]⟩ Tryz.f27 [t0] w K = F27 P w K t0 := by kernel_rfl
theorem F27_ok (t0 : Value) (h : F27 Tryz.prog w K t0) : callsK Tryz.prog 27 #[t0] w K := calls_of_eq mixedX Tryz.func27 (F27_eq _ w K t0) h
def F28 (t0 : Value) : Prop :=
 kV P (Instr.alloc 40 true (.tuple #[])) w fun v2 w =>
 kV P (Instr.alloc 48 true (.tuple #[])) w fun v3 w =>
 kN P (nilN t0) w fun v9 w =>
 kV P (Instr.fieldAt 88 v9 3) w fun v10 w =>
 kV P (Instr.fieldAt 46 v10 0) w fun v11 w =>
 kV P (Instr.loadAt 3 v11) w fun v12 w =>
 kN P (callN (.func (.func 74) #[] #[]) #[v12]) w fun v15 w =>
 condK v15
 (kN P (callN (.func (.func 75) #[] #[]) #[t0]) w fun v17 w =>
 kV P (Instr.extract v17 0) w fun v18 w =>
 kV P (Instr.extract v17 1) w fun v19 w =>
 kU P (Instr.storeAt 40 v2 v18) w fun _ w =>
 kU P (Instr.storeAt 48 v3 v19) w fun _ w =>
 retV P 40 v2 w fun r0 =>
 retV P 48 v3 w fun r1 =>
 K (.tuple #[r0, r1]) w)
 (kN P (callN (.func (.func 76) #[] #[]) #[v12]) w fun v22 w =>
 kV P (binV .gtr 3 (.tmp 22) (.const (.int .i64 0)) v22 (.int .i64 0)) w fun v23 w =>
 condK v23
 (kN P (callN (.func (.func 76) #[] #[]) #[v12]) w fun v26 w =>
 kN P (callN (.func (.func 77) #[] #[]) #[t0, v26]) w fun v27 w =>
 kV P (Instr.extract v27 0) w fun v28 w =>
 kV P (Instr.extract v27 1) w fun v29 w =>
 kU P (Instr.storeAt 40 v2 v28) w fun _ w =>
 kU P (Instr.storeAt 48 v3 v29) w fun _ w =>
 retV P 40 v2 w fun r2 =>
 retV P 48 v3 w fun r3 =>
 K (.tuple #[r2, r3]) w)
 (kV P (binV .eql 3 (.tmp 30) (.const (.int .i64 3)) v12 (.int .i64 3)) w fun v32 w =>
 condK v32
 (joinL (fun J4 =>
 drewK (fun w =>
 pN P (nilN t0) fun v35 =>
 pV P (Instr.fieldAt 88 v35 1) fun v36 =>
 pV P (Instr.fieldAt 40 v36 1) fun v37 =>
 pN P (nilN t0) fun v40 =>
 pV P (Instr.fieldAt 88 v40 3) fun v41 =>
 pV P (Instr.fieldAt 46 v41 4) fun v42 =>
 (kV P (Instr.loadAt 37 v37) w fun v38 w =>
 kV P (Instr.loadAt 2 v42) w fun v43 w =>
 pV P (convert 2 35 v43) fun v44 =>
 kN P (callN (.func (.func 53) #[] #[]) #[v38, v44]) w fun v45 w =>
 pN P (nilN t0) fun v46 =>
 pV P (Instr.fieldAt 88 v46 0) fun v47 =>
 pV P (Instr.fieldAt 40 v47 1) fun v48 =>
 kU P (Instr.storeAt 37 v48 v45) w fun _ w =>
 J4 [] w) /\
 (kV P (Instr.loadAt 2 v42) w fun v43_1 w =>
 pV P (convert 2 35 v43_1) fun v44_1 =>
 kV P (Instr.loadAt 37 v37) w fun v38_1 w =>
 kN P (callN (.func (.func 53) #[] #[]) #[v38_1, v44_1]) w fun v45_1 w =>
 pN P (nilN t0) fun v46_1 =>
 pV P (Instr.fieldAt 88 v46_1 0) fun v47_1 =>
 pV P (Instr.fieldAt 40 v47_1 1) fun v48_1 =>
 kU P (Instr.storeAt 37 v48_1 v45_1) w fun _ w =>
 J4 [] w)) w) fun s4 w => ∀ _ : Nat -> Value,
 kN P (nilN t0) w fun v51 w =>
 kV P (Instr.fieldAt 88 v51 1) w fun v52 w =>
 kV P (Instr.loadAt 40 v52) w fun v53 w =>
 kN P (callN (.func (.func 18) #[] #[]) #[v53]) w fun v54 w =>
 kV P (Instr.field 40 v54 1) w fun v55 w =>
 kN P (callN (.func (.func 79) #[] #[]) #[v55]) w fun v56 w =>
 kN P (callN (.func (.func 78) #[] #[]) #[t0, v56]) w fun v57 w =>
 kV P (Instr.extract v57 0) w fun v58 w =>
 kV P (Instr.extract v57 1) w fun v59 w =>
 kU P (Instr.storeAt 40 v2 v58) w fun _ w =>
 kU P (Instr.storeAt 48 v3 v59) w fun _ w =>
 retV P 40 v2 w fun r6 =>
 retV P 48 v3 w fun r7 =>
 K (.tuple #[r6, r7]) w)
 (kV P (binV .eql 3 (.tmp 30) (.const (.int .i64 4)) v12 (.int .i64 4)) w fun v61 w =>
 condK v61
 (kN P (callN (.func (.func 80) #[] #[]) #[t0]) w fun v63 w =>
 kV P (Instr.extract v63 0) w fun v64 w =>
 kV P (Instr.extract v63 1) w fun v65 w =>
 kU P (Instr.storeAt 40 v2 v64) w fun _ w =>
 kU P (Instr.storeAt 48 v3 v65) w fun _ w =>
 retV P 40 v2 w fun r8 =>
 retV P 48 v3 w fun r9 =>
 K (.tuple #[r8, r9]) w)
 (kV P (binV .eql 3 (.tmp 30) (.const (.int .i64 1)) v12 (.int .i64 1)) w fun v67 w =>
 condK v67
 (kN P (nilN t0) w fun v70 w =>
 kV P (Instr.fieldAt 88 v70 3) w fun v71 w =>
 kV P (Instr.fieldAt 46 v71 4) w fun v72 w =>
 kV P (Instr.loadAt 2 v72) w fun v73 w =>
 kV P (convert 2 35 v73) w fun v74 w =>
 kN P (callN (.func (.func 81) #[] #[]) #[t0, v74]) w fun v75 w =>
 kV P (Instr.extract v75 0) w fun v76 w =>
 kV P (Instr.extract v75 1) w fun v77 w =>
 kU P (Instr.storeAt 40 v2 v76) w fun _ w =>
 kU P (Instr.storeAt 48 v3 v77) w fun _ w =>
 retV P 40 v2 w fun r10 =>
 retV P 48 v3 w fun r11 =>
 K (.tuple #[r10, r11]) w)
 (kV P (binV .eql 3 (.tmp 30) (.const (.int .i64 2)) v12 (.int .i64 2)) w fun v79 w =>
 condK v79
 (drewK (fun w =>
 pN P (nilN t0) fun v82 =>
 pV P (Instr.fieldAt 88 v82 1) fun v83 =>
 pV P (Instr.fieldAt 40 v83 1) fun v84 =>
 pN P (nilN t0) fun v87 =>
 pV P (Instr.fieldAt 88 v87 3) fun v88 =>
 pV P (Instr.fieldAt 46 v88 4) fun v89 =>
 (kV P (Instr.loadAt 37 v84) w fun v85 w =>
 kV P (Instr.loadAt 2 v89) w fun v90 w =>
 pV P (convert 2 35 v90) fun v91 =>
 kN P (callN (.func (.func 53) #[] #[]) #[v85, v91]) w fun v92 w =>
 kN P (callN (.func (.func 78) #[] #[]) #[t0, v92]) w fun v93 w =>
 pV P (Instr.extract v93 0) fun v94 =>
 pV P (Instr.extract v93 1) fun v95 =>
 kU P (Instr.storeAt 40 v2 v94) w fun _ w =>
 kU P (Instr.storeAt 48 v3 v95) w fun _ w =>
 retV P 40 v2 w fun r12 =>
 retV P 48 v3 w fun r13 =>
 K (.tuple #[r12, r13]) w) /\
 (kV P (Instr.loadAt 2 v89) w fun v90_1 w =>
 pV P (convert 2 35 v90_1) fun v91_1 =>
 kV P (Instr.loadAt 37 v84) w fun v85_1 w =>
 kN P (callN (.func (.func 53) #[] #[]) #[v85_1, v91_1]) w fun v92_1 w =>
 kN P (callN (.func (.func 78) #[] #[]) #[t0, v92_1]) w fun v93_1 w =>
 pV P (Instr.extract v93_1 0) fun v94_1 =>
 pV P (Instr.extract v93_1 1) fun v95_1 =>
 kU P (Instr.storeAt 40 v2 v94_1) w fun _ w =>
 kU P (Instr.storeAt 48 v3 v95_1) w fun _ w =>
 retV P 40 v2 w fun r14 =>
 retV P 48 v3 w fun r15 =>
 K (.tuple #[r14, r15]) w)) w)
 (kV P (binV .eql 3 (.tmp 30) (.const (.int .i64 41)) v12 (.int .i64 41)) w fun v97 w =>
 condK v97
 (kN P (nilN t0) w fun v100 w =>
 kV P (Instr.fieldAt 88 v100 1) w fun v101 w =>
 kV P (Instr.fieldAt 40 v101 1) w fun v102 w =>
 kV P (Instr.fieldAt 37 v102 2) w fun v103 w =>
 kV P (Instr.loadAt 35 v103) w fun v104 w =>
 kN P (callN (.func (.func 26) #[] #[]) #[t0, (.int .i64 2), (.int .i64 0), v104]) w fun v105 w =>
 kV P (Instr.extract v105 0) w fun v106 w =>
 kV P (Instr.extract v105 1) w fun v107 w =>
 kU P (Instr.storeAt 40 v2 v106) w fun _ w =>
 kU P (Instr.storeAt 48 v3 v107) w fun _ w =>
 retV P 40 v2 w fun r16 =>
 retV P 48 v3 w fun r17 =>
 K (.tuple #[r16, r17]) w)
 (kV P (binV .eql 3 (.tmp 30) (.const (.int .i64 42)) v12 (.int .i64 42)) w fun v109 w =>
 condK v109
 (kN P (nilN t0) w fun v112 w =>
 kV P (Instr.fieldAt 88 v112 1) w fun v113 w =>
 kV P (Instr.fieldAt 40 v113 1) w fun v114 w =>
 kV P (Instr.fieldAt 37 v114 2) w fun v115 w =>
 kV P (Instr.loadAt 35 v115) w fun v116 w =>
 kN P (callN (.func (.func 26) #[] #[]) #[t0, (.int .i64 3), (.int .i64 0), v116]) w fun v117 w =>
 kV P (Instr.extract v117 0) w fun v118 w =>
 kV P (Instr.extract v117 1) w fun v119 w =>
 kU P (Instr.storeAt 40 v2 v118) w fun _ w =>
 kU P (Instr.storeAt 48 v3 v119) w fun _ w =>
 retV P 40 v2 w fun r18 =>
 retV P 48 v3 w fun r19 =>
 K (.tuple #[r18, r19]) w)
 (kN P (nilN t0) w fun v121 w =>
 kV P (Instr.fieldAt 88 v121 5) w fun v122 w =>
 kV P (Instr.fieldAt 37 v122 2) w fun v123 w =>
 kV P (Instr.loadAt 35 v123) w fun v124 w =>
 joinL (fun J20 =>
 kN P (callN (.func (.func 82) #[] #[]) #[v12]) w fun v126 w =>
 condK v126
 (kN P (nilN t0) w fun v128 w =>
 kV P (Instr.fieldAt 88 v128 3) w fun v129 w =>
 kV P (Instr.fieldAt 46 v129 4) w fun v130 w =>
 kV P (Instr.loadAt 2 v130) w fun v131 w =>
 kV P (convert 2 35 v131) w fun v132 w =>
 J20 [v132] w)
 (J20 [v124] w)) fun s20 w => ∀ _ : Nat -> Value,
 kN P (nilN t0) w fun v136 w =>
 kV P (Instr.fieldAt 88 v136 4) w fun v137 w =>
 kV P (Instr.fieldAt 37 v137 2) w fun v138 w =>
 kV P (Instr.loadAt 35 v138) w fun v139 w =>
 kN P (callN (.func (.func 83) #[] #[]) #[v12, v139, (s20.getD 0 undef)]) w fun v141 w =>
 kV P (Instr.extract v141 0) w fun v142 w =>
 kV P (Instr.extract v141 1) w fun v143 w =>
 condK v143
 (kN P (callN (.func (.func 81) #[] #[]) #[t0, v142]) w fun v147 w =>
 kV P (Instr.extract v147 0) w fun v148 w =>
 kV P (Instr.extract v147 1) w fun v149 w =>
 kU P (Instr.storeAt 40 v2 v148) w fun _ w =>
 kU P (Instr.storeAt 48 v3 v149) w fun _ w =>
 retV P 40 v2 w fun r22 =>
 retV P 48 v3 w fun r23 =>
 K (.tuple #[r22, r23]) w)
 (kN P (callN (.func (.func 84) #[] #[]) #[t0]) w fun v151 w =>
 kV P (Instr.extract v151 0) w fun v152 w =>
 kV P (Instr.extract v151 1) w fun v153 w =>
 kU P (Instr.storeAt 40 v2 v152) w fun _ w =>
 kU P (Instr.storeAt 48 v3 v153) w fun _ w =>
 retV P 40 v2 w fun r24 =>
 retV P 48 v3 w fun r25 =>
 K (.tuple #[r24, r25]) w)))))))))
theorem F28_eq (t0 : Value) : funE P ⟨[(15, 999), (8, 999)], [], [(23, [5]), (9, [])]⟩ Tryz.f28 [t0] w K = F28 P w K t0 := by kernel_rfl
theorem F28_ok (t0 : Value) (h : F28 Tryz.prog w K t0) : callsK Tryz.prog 28 #[t0] w K := calls_of_eq mixedX Tryz.func28 (F28_eq _ w K t0) h
def F29 (t0 : Value) : Prop :=
 kV P (binV .geq 3 (.tmp 3) (.const (.int .i64 1)) t0 (.int .i64 1)) w fun v4 w =>
 joinK (fun J0 : Value -> World -> Prop => gdK (yb v4) true (fun k => k t0 w) w fun v6 w =>
 gdK (yb v4) true (fun k => kV P (binV .lss 3 (.tmp 6) (.const (.int .i64 32)) v6 (.int .i64 32)) w k) w fun v7 w =>
 kN P (pickN v4 v7 (.bool false)) w fun v8_1 w =>
 J0 v8_1 w) fun v8 w =>
 K v8 w
theorem F29_eq (t0 : Value) : funE P ⟨[], [], []⟩ Tryz.f29 [t0] w K = F29 P w K t0 := by kernel_rfl
theorem F29_ok (t0 : Value) (h : F29 Tryz.prog w K t0) : callsK Tryz.prog 29 #[t0] w K := calls_of_eq mixedX Tryz.func29 (F29_eq _ w K t0) h
def F37 (t0 : Value) : Prop :=
 kN P (callN (.func (.func 71) #[] #[]) #[]) w fun v5 w =>
 loopT (fun R0 s0 w => ∀ _ : Nat -> Value,
 kV P (binV .lss 3 (.tmp 6) (.const (.int .i64 69)) (s0.getD 0 undef) (.int .i64 69)) w fun v7 w =>
 condK v7
 (kV P (Instr.index 167 v5 (s0.getD 0 undef)) w fun v9 w =>
 kV P (Instr.alloc 114 true (.tuple #[])) w fun v4 w =>
 kU P (Instr.storeAt 114 v4 v9) w fun _ w =>
 kV P (Instr.fieldAt 114 v4 0) w fun v10 w =>
 kV P (Instr.loadAt 9 v10) w fun v11 w =>
 kV P (binV .eql 9 (.tmp 11) (.tmp 12) v11 t0) w fun v13 w =>
 condK v13
 (kV P (binV .add 3 (.tmp 14) (.const (.int .i64 1)) (s0.getD 0 undef) (.int .i64 1)) w fun v15 w =>
 K v15 w)
 (kV P (binV .add 3 (.tmp 6) (.const (.int .i64 1)) (s0.getD 0 undef) (.int .i64 1)) w fun v16 w =>
 R0 [v16] w))
 (K (.int .i64 0) w)) [(.int .i64 0)] w
theorem F37_eq (t0 : Value) : funE P ⟨[], [(2, [6])], []⟩ Tryz.f37 [t0] w K = F37 P w K t0 := by kernel_rfl
theorem F37_ok (t0 : Value) (h : F37 Tryz.prog w K t0) : callsK Tryz.prog 37 #[t0] w K := calls_of_eq mixedX Tryz.func37 (F37_eq _ w K t0) h
def F38 (t0 : Value) : Prop :=
 kV P (binV .eql 5 (.tmp 3) (.const (.int .u8 82)) t0 (.int .u8 82)) w fun v5 w =>
 condK v5
 (K (.string ⟨#[100, 97, 98]⟩) w)
 (kV P (binV .eql 5 (.tmp 3) (.const (.int .u8 71)) t0 (.int .u8 71)) w fun v7 w =>
 condK v7
 (K (.string ⟨#[100, 97]⟩) w)
 (joinL (fun J0 =>
 kV P (binV .eql 5 (.tmp 3) (.const (.int .u8 73)) t0 (.int .u8 73)) w fun v9 w =>
 condK v9
 (J0 [v9] w)
 (kV P (binV .eql 5 (.tmp 3) (.const (.int .u8 67)) t0 (.int .u8 67)) w fun v10 w =>
 condK v10
 (J0 [v10] w)
 (kV P (binV .eql 5 (.tmp 3) (.const (.int .u8 72)) t0 (.int .u8 72)) w fun v11 w =>
 J0 [v11] w))) fun s0 w => ∀ _ : Nat -> Value,
 condK (s0.getD 0 undef)
 (K (.string ⟨#[100, 97, 109]⟩) w)
 (kV P (binV .eql 5 (.tmp 3) (.const (.int .u8 83)) t0 (.int .u8 83)) w fun v13 w =>
 condK v13
 (K (.string ⟨#[98, 97, 109]⟩) w)
 (kV P (binV .eql 5 (.tmp 3) (.const (.int .u8 66)) t0 (.int .u8 66)) w fun v15 w =>
 condK v15
 (K (.string ⟨#[97, 98, 109]⟩) w)
 (joinL (fun J2 =>
 kV P (binV .eql 5 (.tmp 3) (.const (.int .u8 85)) t0 (.int .u8 85)) w fun v17 w =>
 condK v17
 (J2 [v17] w)
 (kV P (binV .eql 5 (.tmp 3) (.const (.int .u8 74)) t0 (.int .u8 74)) w fun v18 w =>
 J2 [v18] w)) fun s2 w => ∀ _ : Nat -> Value,
 condK (s2.getD 0 undef)
 (K (.string ⟨#[100, 109]⟩) w)
 (K (.string ⟨#[]⟩) w))))))
theorem F38_eq (t0 : Value) : funE P ⟨[], [], [(9, [8]), (16, [16])]⟩ Tryz.f38 [t0] w K = F38 P w K t0 := by kernel_rfl
theorem F38_ok (t0 : Value) (h : F38 Tryz.prog w K t0) : callsK Tryz.prog 38 #[t0] w K := calls_of_eq mixedX Tryz.func38 (F38_eq _ w K t0) h
def F39 (t0 : Value) : Prop :=
 kN P (callN (.func (.func 45) #[] #[]) #[t0]) w fun v7 w =>
 kV P (Instr.extract v7 0) w fun v8 w =>
 kV P (Instr.extract v7 1) w fun v9 w =>
 kV P (Instr.alloc 114 true (.tuple #[])) w fun v3 w =>
 kU P (Instr.storeAt 114 v3 v8) w fun _ w =>
 kV P (Instr.fieldAt 114 v3 1) w fun v10 w =>
 kV P (Instr.loadAt 5 v10) w fun v11 w =>
 K v11 w
theorem F39_eq (t0 : Value) : funE P ⟨[], [], []⟩ Tryz.f39 [t0] w K = F39 P w K t0 := by kernel_rfl
theorem F39_ok (t0 : Value) (h : F39 Tryz.prog w K t0) : callsK Tryz.prog 39 #[t0] w K := calls_of_eq mixedX Tryz.func39 (F39_eq _ w K t0) h
def F45 (t0 : Value) : Prop :=
 kV P (Instr.alloc 114 true (.tuple #[])) w fun v2 w =>
 kV P (binV .lss 3 (.tmp 4) (.const (.int .i64 1)) t0 (.int .i64 1)) w fun v5 w =>
 joinK (fun J0 : Value -> World -> Prop => gdK (yb v5) false (fun k => k t0 w) w fun v7 w =>
 gdK (yb v5) false (fun k => kV P (binV .gtr 3 (.tmp 7) (.const (.int .i64 69)) v7 (.int .i64 69)) w k) w fun v8 w =>
 kN P (pickN v5 (.bool true) v8) w fun v9_1 w =>
 J0 v9_1 w) fun v9 w =>
 condK v9
 (kV P (Instr.build 114 #[]) w fun v10 w =>
 kU P (Instr.storeAt 114 v2 v10) w fun _ w =>
 retV P 114 v2 w fun r1 =>
 K (.tuple #[r1, (.bool false)]) w)
 (kN P (callN (.func (.func 71) #[] #[]) #[]) w fun v11 w =>
 kV P (binV .sub 3 (.tmp 12) (.const (.int .i64 1)) t0 (.int .i64 1)) w fun v13 w =>
 kV P (Instr.index 167 v11 v13) w fun v14 w =>
 kU P (Instr.storeAt 114 v2 v14) w fun _ w =>
 retV P 114 v2 w fun r2 =>
 K (.tuple #[r2, (.bool true)]) w)
theorem F45_eq (t0 : Value) : funE P ⟨[], [], []⟩ Tryz.f45 [t0] w K = F45 P w K t0 := by kernel_rfl
theorem F45_ok (t0 : Value) (h : F45 Tryz.prog w K t0) : callsK Tryz.prog 45 #[t0] w K := calls_of_eq mixedX Tryz.func45 (F45_eq _ w K t0) h
def F46 (t0 : Value) : Prop :=
 kV P (Instr.alloc 119 true (.tuple #[])) w fun v2 w =>
 joinL (fun J0 =>
 kV P (binV .eql 5 (.tmp 3) (.const (.int .u8 73)) t0 (.int .u8 73)) w fun v5 w =>
 condK v5
 (J0 [v5] w)
 (kV P (binV .eql 5 (.tmp 3) (.const (.int .u8 67)) t0 (.int .u8 67)) w fun v6 w =>
 J0 [v6] w)) fun s0 w => ∀ _ : Nat -> Value,
 condK (s0.getD 0 undef)
 (kV P (Instr.build 188 #[(0, (.int .i64 0)), (1, (.int .i64 12)), (2, (.int .i64 20))]) w fun v7 w =>
 kV P (Instr.buildSlice 117 1 #[(0, v7)]) w fun v8 w =>
 kV P (binV .eql 5 (.tmp 9) (.const (.int .u8 73)) t0 (.int .u8 73)) w fun v10 w =>
 kV P (Instr.build 119 #[(0, v8), (1, (.int .i64 12)), (2, v10), (3, (.int .i64 0))]) w fun v11 w =>
 kU P (Instr.storeAt 119 v2 v11) w fun _ w =>
 retV P 119 v2 w fun r2 =>
 K r2 w)
 (kV P (binV .eql 5 (.tmp 3) (.const (.int .u8 72)) t0 (.int .u8 72)) w fun v13 w =>
 condK v13
 (kV P (Instr.build 188 #[(0, (.int .i64 0)), (1, (.int .i64 6)), (2, (.int .i64 20))]) w fun v14 w =>
 kV P (Instr.buildSlice 117 1 #[(0, v14)]) w fun v15 w =>
 kV P (Instr.build 119 #[(0, v15), (1, (.int .i64 6)), (2, (.bool false)), (3, (.int .i64 0))]) w fun v16 w =>
 kU P (Instr.storeAt 119 v2 v16) w fun _ w =>
 retV P 119 v2 w fun r3 =>
 K r3 w)
 (kV P (binV .eql 5 (.tmp 3) (.const (.int .u8 83)) t0 (.int .u8 83)) w fun v18 w =>
 condK v18
 (kV P (Instr.build 188 #[(0, (.int .i64 0)), (1, (.int .i64 5)), (2, (.int .i64 7))]) w fun v19 w =>
 kV P (Instr.build 188 #[(0, (.int .i64 5)), (1, (.int .i64 7)), (2, (.int .i64 25))]) w fun v20 w =>
 kV P (Instr.buildSlice 117 2 #[(0, v19), (1, v20)]) w fun v21 w =>
 kV P (Instr.build 119 #[(0, v21), (1, (.int .i64 12)), (2, (.bool true)), (3, (.int .i64 0))]) w fun v22 w =>
 kU P (Instr.storeAt 119 v2 v22) w fun _ w =>
 retV P 119 v2 w fun r4 =>
 K r4 w)
 (kV P (binV .eql 5 (.tmp 3) (.const (.int .u8 66)) t0 (.int .u8 66)) w fun v24 w =>
 condK v24
 (kV P (Instr.build 188 #[(0, (.int .i64 1)), (1, (.int .i64 4)), (2, (.int .i64 8))]) w fun v25 w =>
 kV P (Instr.build 188 #[(0, (.int .i64 5)), (1, (.int .i64 6)), (2, (.int .i64 25))]) w fun v26 w =>
 kV P (Instr.build 188 #[(0, (.int .i64 11)), (1, (.int .i64 1)), (2, (.int .i64 7))]) w fun v27 w =>
 kV P (Instr.build 188 #[(0, (.int .i64 12)), (1, (.int .i64 1)), (2, (.int .i64 31))]) w fun v28 w =>
 kV P (Instr.buildSlice 117 4 #[(0, v25), (1, v26), (2, v27), (3, v28)]) w fun v29 w =>
 kV P (Instr.build 119 #[(0, v29), (1, (.int .i64 13)), (2, (.bool true)), (3, (.int .i64 1))]) w fun v30 w =>
 kU P (Instr.storeAt 119 v2 v30) w fun _ w =>
 retV P 119 v2 w fun r5 =>
 K r5 w)
 (kV P (binV .eql 5 (.tmp 3) (.const (.int .u8 85)) t0 (.int .u8 85)) w fun v32 w =>
 condK v32
 (kV P (Instr.build 188 #[(0, (.int .i64 12)), (1, (.int .i64 20)), (2, (.int .i64 12))]) w fun v33 w =>
 kV P (Instr.buildSlice 117 1 #[(0, v33)]) w fun v34 w =>
 kV P (Instr.build 119 #[(0, v34), (1, (.int .i64 32)), (2, (.bool true)), (3, (.int .i64 12))]) w fun v35 w =>
 kU P (Instr.storeAt 119 v2 v35) w fun _ w =>
 retV P 119 v2 w fun r6 =>
 K r6 w)
 (kV P (binV .eql 5 (.tmp 3) (.const (.int .u8 74)) t0 (.int .u8 74)) w fun v37 w =>
 condK v37
 (kV P (Instr.build 188 #[(0, (.int .i64 12)), (1, (.int .i64 8)), (2, (.int .i64 12))]) w fun v38 w =>
 kV P (Instr.build 188 #[(0, (.int .i64 11)), (1, (.int .i64 1)), (2, (.int .i64 20))]) w fun v39 w =>
 kV P (Instr.build 188 #[(0, (.int .i64 1)), (1, (.int .i64 10)), (2, (.int .i64 21))]) w fun v40 w =>
 kV P (Instr.build 188 #[(0, (.int .i64 20)), (1, (.int .i64 1)), (2, (.int .i64 31))]) w fun v41 w =>
 kV P (Instr.buildSlice 117 4 #[(0, v38), (1, v39), (2, v40), (3, v41)]) w fun v42 w =>
 kV P (Instr.build 119 #[(0, v42), (1, (.int .i64 21)), (2, (.bool true)), (3, (.int .i64 1))]) w fun v43 w =>
 kU P (Instr.storeAt 119 v2 v43) w fun _ w =>
 retV P 119 v2 w fun r7 =>
 K r7 w)
 (kV P (Instr.build 119 #[]) w fun v44 w =>
 kU P (Instr.storeAt 119 v2 v44) w fun _ w =>
 retV P 119 v2 w fun r8 =>
 K r8 w))))))
theorem F46_eq (t0 : Value) : funE P ⟨[], [], [(4, [4])]⟩ Tryz.f46 [t0] w K = F46 P w K t0 := by kernel_rfl
theorem F46_ok (t0 : Value) (h : F46 Tryz.prog w K t0) : callsK Tryz.prog 46 #[t0] w K := calls_of_eq mixedX Tryz.func46 (F46_eq _ w K t0) h
def F47 (t0 t1 : Value) : Prop :=
 kV P (Instr.box 119 t0) w fun v2 w =>
 kV P (Instr.fieldAt 119 v2 0) w fun v5 w =>
 kV P (Instr.loadAt 117 v5) w fun v6 w =>
 kV P (Builtin.len_ #[117] 3 #[v6]) w fun v7 w =>
 kV P (binV .eql 3 (.tmp 7) (.const (.int .i64 0)) v7 (.int .i64 0)) w fun v8 w =>
 joinK (fun J0 : Value -> World -> Prop => gdK (yb v8) false (fun k => k t1 w) w fun v10 w =>
 gdK (yb v8) false (fun k => kV P (Instr.fieldAt 119 v2 1) w k) w fun v11 w =>
 gdK (yb v8) false (fun k => kV P (Instr.loadAt 3 v11) w k) w fun v12 w =>
 gdK (yb v8) false (fun k => kV P (Instr.fieldAt 119 v2 2) w k) w fun v13 w =>
 gdK (yb v8) false (fun k => kV P (Instr.loadAt 4 v13) w k) w fun v14 w =>
 gdK (yb v8) false (fun k => kN P (callN (.func (.func 51) #[] #[]) #[v10, v12, v14]) w k) w fun v15 w =>
 gdK (yb v8) false (fun k => k v15 w) w fun v16 w =>
 gdK (yb v16) true (fun k => k t1 w) w fun v17 w =>
 gdK (yb v16) true (fun k => kV P (convert 2 35 v17) w k) w fun v18 w =>
 gdK (yb v16) true (fun k => kV P (Instr.fieldAt 119 v2 3) w k) w fun v19 w =>
 gdK (yb v16) true (fun k => kV P (Instr.loadAt 3 v19) w k) w fun v20 w =>
 gdK (yb v16) true (fun k => kN P (callN (.func (.func 97) #[] #[]) #[v20]) w k) w fun v21 w =>
 gdK (yb v16) true (fun k => kV P (binV .and 35 (.tmp 18) (.tmp 21) v18 v21) w k) w fun v22 w =>
 gdK (yb v16) true (fun k => kV P (binV .eql 35 (.tmp 22) (.const (.int .u64 0)) v22 (.int .u64 0)) w k) w fun v23 w =>
 gdK (yb v8) false (fun k => kN P (pickN v16 v23 (.bool false)) w k) w fun v24 w =>
 kN P (pickN v8 (.bool true) v24) w fun v25_1 w =>
 J0 v25_1 w) fun v25 w =>
 K v25 w
theorem F47_eq (t0 t1 : Value) : funE P ⟨[], [], []⟩ Tryz.f47 [t0, t1] w K = F47 P w K t0 t1 := by kernel_rfl
theorem F47_ok (t0 t1 : Value) (h : F47 Tryz.prog w K t0 t1) : callsK Tryz.prog 47 #[t0, t1] w K := calls_of_eq mixedX Tryz.func47 (F47_eq _ w K t0 t1) h
def F48 (t0 : Value) : Prop :=
 kV P (Instr.box 114 t0) w fun v1 w =>
 kV P (Instr.alloc 35 true (.tuple #[])) w fun v2 w =>
 kV P (Instr.alloc 35 true (.tuple #[])) w fun v3 w =>
 kV P (Instr.fieldAt 114 v1 2) w fun v7 w =>
 kV P (Instr.loadAt 35 v7) w fun v8 w =>
 kN P (callN (.func (.func 98) #[] #[v2, v3]) #[(.int .i64 0), (.int .i64 7), v8]) w fun v9 w =>
 kV P (Instr.fieldAt 114 v1 1) w fun v10 w =>
 kV P (Instr.loadAt 5 v10) w fun v11 w =>
 joinL (fun J0 =>
 kV P (binV .eql 5 (.tmp 11) (.const (.int .u8 85)) v11 (.int .u8 85)) w fun v13 w =>
 condK v13
 (J0 [v13] w)
 (kV P (binV .eql 5 (.tmp 11) (.const (.int .u8 74)) v11 (.int .u8 74)) w fun v14 w =>
 J0 [v14] w)) fun s0 w => ∀ _ : Nat -> Value,
 condK (s0.getD 0 undef)
 (drewK (fun w =>
 relX fun R2 =>
 postX R2 (fun p2_15 => allX R2 w fun V2 w => True -> kV P (Instr.loadAt 35 v2) w (okX R2 w p2_15)) fun p2_15 =>
 postX R2 (fun p2_16 => allX R2 w fun V2 w => True -> kV P (Instr.loadAt 35 v3) w (okX R2 w p2_16)) fun p2_16 =>
 postX R2 (fun p2_n2 => allX R2 w fun V2 w => p2_15 (V2 15) w /\ True -> kU P (Instr.storeAt 35 v2 (V2 15)) w (okX R2 w p2_n2)) fun p2_n2 =>
 allX R2 w fun V2 w => p2_15 (V2 15) w /\ p2_16 (V2 16) w /\ (∃ u, p2_n2 u w) /\ True -> xDist V2 [] ->
 kU P (Instr.storeAt 35 v3 (V2 16)) w fun _ w =>
 retV P 35 v2 w fun r3 =>
 retV P 35 v3 w fun r4 =>
 K (.tuple #[r3, r4]) w) w)
 (kV P (binV .eql 5 (.tmp 11) (.const (.int .u8 78)) v11 (.int .u8 78)) w fun v18 w =>
 condK v18
 (kN P (callN (.func (.func 98) #[] #[v2, v3]) #[(.int .i64 7), (.int .i64 13), (.int .u64 0)]) w fun v20 w =>
 kV P (Instr.fieldAt 114 v1 4) w fun v22 w =>
 kV P (Instr.loadAt 35 v22) w fun v23 w =>
 kN P (callN (.func (.func 98) #[] #[v2, v3]) #[(.int .i64 20), (.int .i64 12), v23]) w fun v24 w =>
 drewK (fun w =>
 relX fun R5 =>
 postX R5 (fun p5_25 => allX R5 w fun V5 w => True -> kV P (Instr.loadAt 35 v2) w (okX R5 w p5_25)) fun p5_25 =>
 postX R5 (fun p5_26 => allX R5 w fun V5 w => True -> kV P (Instr.loadAt 35 v3) w (okX R5 w p5_26)) fun p5_26 =>
 postX R5 (fun p5_n2 => allX R5 w fun V5 w => p5_25 (V5 25) w /\ True -> kU P (Instr.storeAt 35 v2 (V5 25)) w (okX R5 w p5_n2)) fun p5_n2 =>
 allX R5 w fun V5 w => p5_25 (V5 25) w /\ p5_26 (V5 26) w /\ (∃ u, p5_n2 u w) /\ True -> xDist V5 [] ->
 kU P (Instr.storeAt 35 v3 (V5 26)) w fun _ w =>
 retV P 35 v2 w fun r6 =>
 retV P 35 v3 w fun r7 =>
 K (.tuple #[r6, r7]) w) w)
 (kV P (Instr.fieldAt 114 v1 3) w fun v28 w =>
 kV P (Instr.loadAt 35 v28) w fun v29 w =>
 kN P (callN (.func (.func 98) #[] #[v2, v3]) #[(.int .i64 12), (.int .i64 3), v29]) w fun v30 w =>
 joinL (fun J8 =>
 kV P (Instr.fieldAt 114 v1 1) w fun v31 w =>
 kV P (Instr.loadAt 5 v31) w fun v32 w =>
 kV P (binV .eql 5 (.tmp 32) (.const (.int .u8 82)) v32 (.int .u8 82)) w fun v34 w =>
 condK v34
 (kV P (Instr.fieldAt 114 v1 4) w fun v36 w =>
 kV P (Instr.loadAt 35 v36) w fun v37 w =>
 kN P (callN (.func (.func 98) #[] #[v2, v3]) #[(.int .i64 25), (.int .i64 7), v37]) w fun v38 w =>
 J8 [] w)
 (kV P (binV .eql 5 (.tmp 32) (.const (.int .u8 71)) v32 (.int .u8 71)) w fun v40 w =>
 condK v40
 (kV P (Instr.fieldAt 114 v1 4) w fun v42 w =>
 kV P (Instr.loadAt 35 v42) w fun v43 w =>
 kN P (callN (.func (.func 98) #[] #[v2, v3]) #[(.int .i64 20), (.int .i64 5), v43]) w fun v44 w =>
 kN P (callN (.func (.func 98) #[] #[v2, v3]) #[(.int .i64 25), (.int .i64 7), (.int .u64 127)]) w fun v46 w =>
 J8 [] w)
 (kV P (binV .eql 5 (.tmp 32) (.const (.int .u8 72)) v32 (.int .u8 72)) w fun v48 w =>
 condK v48
 (kV P (Instr.fieldAt 114 v1 4) w fun v50 w =>
 kV P (Instr.loadAt 35 v50) w fun v51 w =>
 kN P (callN (.func (.func 98) #[] #[v2, v3]) #[(.int .i64 26), (.int .i64 6), v51]) w fun v52 w =>
 J8 [] w)
 (J8 [] w)))) fun s8 w => ∀ _ : Nat -> Value,
 drewK (fun w =>
 relX fun R10 =>
 postX R10 (fun p10_53 => allX R10 w fun V10 w => True -> kV P (Instr.loadAt 35 v2) w (okX R10 w p10_53)) fun p10_53 =>
 postX R10 (fun p10_54 => allX R10 w fun V10 w => True -> kV P (Instr.loadAt 35 v3) w (okX R10 w p10_54)) fun p10_54 =>
 postX R10 (fun p10_n2 => allX R10 w fun V10 w => p10_53 (V10 53) w /\ True -> kU P (Instr.storeAt 35 v2 (V10 53)) w (okX R10 w p10_n2)) fun p10_n2 =>
 allX R10 w fun V10 w => p10_53 (V10 53) w /\ p10_54 (V10 54) w /\ (∃ u, p10_n2 u w) /\ True -> xDist V10 [] ->
 kU P (Instr.storeAt 35 v3 (V10 54)) w fun _ w =>
 retV P 35 v2 w fun r11 =>
 retV P 35 v3 w fun r12 =>
 K (.tuple #[r11, r12]) w) w))
theorem F48_eq (t0 : Value) : funE P ⟨[(20, 1003), (10, 1003), (6, 1003)], [], [(6, [12]), (20, [])]⟩ Tryz.f48 [t0] w K = F48 P w K t0 := by kernel_rfl
theorem F48_ok (t0 : Value) (h : F48 Tryz.prog w K t0) : callsK Tryz.prog 48 #[t0] w K := calls_of_eq mixedX Tryz.func48 (F48_eq _ w K t0) h
def F49 (t0 : Value) : Prop :=
 kV P (binV .eql 5 (.tmp 5) (.const (.int .u8 82)) t0 (.int .u8 82)) w fun v7 w =>
 condK v7
 (K (.tuple #[(.bool true), (.bool true), (.bool true)]) w)
 (joinL (fun J0 =>
 kV P (binV .eql 5 (.tmp 5) (.const (.int .u8 71)) t0 (.int .u8 71)) w fun v9 w =>
 condK v9
 (J0 [v9] w)
 (kV P (binV .eql 5 (.tmp 5) (.const (.int .u8 73)) t0 (.int .u8 73)) w fun v10 w =>
 condK v10
 (J0 [v10] w)
 (kV P (binV .eql 5 (.tmp 5) (.const (.int .u8 67)) t0 (.int .u8 67)) w fun v11 w =>
 condK v11
 (J0 [v11] w)
 (kV P (binV .eql 5 (.tmp 5) (.const (.int .u8 72)) t0 (.int .u8 72)) w fun v12 w =>
 J0 [v12] w)))) fun s0 w => ∀ _ : Nat -> Value,
 condK (s0.getD 0 undef)
 (K (.tuple #[(.bool true), (.bool true), (.bool false)]) w)
 (joinL (fun J2 =>
 kV P (binV .eql 5 (.tmp 5) (.const (.int .u8 83)) t0 (.int .u8 83)) w fun v14 w =>
 condK v14
 (J2 [v14] w)
 (kV P (binV .eql 5 (.tmp 5) (.const (.int .u8 66)) t0 (.int .u8 66)) w fun v15 w =>
 J2 [v15] w)) fun s2 w => ∀ _ : Nat -> Value,
 condK (s2.getD 0 undef)
 (K (.tuple #[(.bool false), (.bool true), (.bool true)]) w)
 (joinL (fun J4 =>
 kV P (binV .eql 5 (.tmp 5) (.const (.int .u8 85)) t0 (.int .u8 85)) w fun v17 w =>
 condK v17
 (J4 [v17] w)
 (kV P (binV .eql 5 (.tmp 5) (.const (.int .u8 74)) t0 (.int .u8 74)) w fun v18 w =>
 J4 [v18] w)) fun s4 w => ∀ _ : Nat -> Value,
 condK (s4.getD 0 undef)
 (K (.tuple #[(.bool true), (.bool false), (.bool false)]) w)
 (K (.tuple #[(.bool false), (.bool false), (.bool false)]) w))))
theorem F49_eq (t0 : Value) : funE P ⟨[], [], [(8, [8]), (11, [13]), (14, [16])]⟩ Tryz.f49 [t0] w K = F49 P w K t0 := by kernel_rfl
theorem F49_ok (t0 : Value) (h : F49 Tryz.prog w K t0) : callsK Tryz.prog 49 #[t0] w K := calls_of_eq mixedX Tryz.func49 (F49_eq _ w K t0) h
def F50 (t0 t1 t2 : Value) : Prop :=
 kV P (Instr.box 119 t0) w fun v3 w =>
 kV P (Instr.fieldAt 119 v3 0) w fun v9 w =>
 kV P (Instr.loadAt 117 v9) w fun v10 w =>
 kV P (Builtin.len_ #[117] 3 #[v10]) w fun v11 w =>
 loopT (fun R0 s0 w => ∀ _ : Nat -> Value,
 kV P (binV .lss 3 (.tmp 12) (.tmp 11) (s0.getD 1 undef) v11) w fun v13 w =>
 condK v13
 (joinL (fun J2 =>
 kV P (Instr.indexAt 117 v10 (s0.getD 1 undef)) w fun v14 w =>
 kV P (Instr.loadAt 188 v14) w fun v15 w =>
 kV P (Instr.alloc 188 true (.tuple #[])) w fun v8 w =>
 kU P (Instr.storeAt 188 v8 v15) w fun _ w =>
 drewK (fun w =>
 relX fun R4 =>
 postX R4 (fun p4_16 => allX R4 w fun V4 w => True -> (okX R4 w p4_16) (s0.getD 0 undef) w) fun p4_16 =>
 postX R4 (fun p4_17 => allX R4 w fun V4 w => True -> kV P (Instr.fieldAt 188 v8 2) w (okX R4 w p4_17)) fun p4_17 =>
 postX R4 (fun p4_18 => allX R4 w fun V4 w => p4_17 (V4 17) w /\ True -> kV P (Instr.loadAt 3 (V4 17)) w (okX R4 w p4_18)) fun p4_18 =>
 postX R4 (fun p4_19 => allX R4 w fun V4 w => True -> kV P (Instr.fieldAt 188 v8 1) w (okX R4 w p4_19)) fun p4_19 =>
 postX R4 (fun p4_20 => allX R4 w fun V4 w => p4_19 (V4 19) w /\ True -> kV P (Instr.loadAt 3 (V4 19)) w (okX R4 w p4_20)) fun p4_20 =>
 postX R4 (fun p4_21 => allX R4 w fun V4 w => True -> (okX R4 w p4_21) t2 w) fun p4_21 =>
 postX R4 (fun p4_22 => allX R4 w fun V4 w => p4_21 (V4 21) w /\ True -> kV P (convert 2 35 (V4 21)) w (okX R4 w p4_22)) fun p4_22 =>
 postX R4 (fun p4_23 => allX R4 w fun V4 w => True -> kV P (Instr.fieldAt 188 v8 0) w (okX R4 w p4_23)) fun p4_23 =>
 postX R4 (fun p4_24 => allX R4 w fun V4 w => p4_23 (V4 23) w /\ True -> kV P (Instr.loadAt 3 (V4 23)) w (okX R4 w p4_24)) fun p4_24 =>
 postX R4 (fun p4_25 => allX R4 w fun V4 w => True -> kV P (Instr.fieldAt 188 v8 1) w (okX R4 w p4_25)) fun p4_25 =>
 postX R4 (fun p4_26 => allX R4 w fun V4 w => p4_25 (V4 25) w /\ True -> kV P (Instr.loadAt 3 (V4 25)) w (okX R4 w p4_26)) fun p4_26 =>
 postX R4 (fun p4_27 => allX R4 w fun V4 w => p4_22 (V4 22) w /\ p4_24 (V4 24) w /\ p4_26 (V4 26) w /\ True -> kN P (callN (.func (.func 73) #[] #[]) #[(V4 22), (V4 24), (V4 26)]) w (okX R4 w p4_27)) fun p4_27 =>
 allX R4 w fun V4 w => p4_16 (V4 16) w /\ p4_17 (V4 17) w /\ p4_18 (V4 18) w /\ p4_19 (V4 19) w /\ p4_20 (V4 20) w /\ p4_21 (V4 21) w /\ p4_22 (V4 22) w /\ p4_23 (V4 23) w /\ p4_24 (V4 24) w /\ p4_25 (V4 25) w /\ p4_26 (V4 26) w /\ p4_27 (V4 27) w /\ True -> xDist V4 [] ->
 kN P (callN (.func (.func 52) #[] #[]) #[(V4 16), (V4 18), (V4 20), (V4 27)]) w fun v28 w =>
 J2 [v28] w) w) fun s2 w => ∀ _ : Nat -> Value,
 kV P (binV .add 3 (.tmp 12) (.const (.int .i64 1)) (s0.getD 1 undef) (.int .i64 1)) w fun v29 w =>
 R0 [(s2.getD 0 undef), v29] w)
 (K (s0.getD 0 undef) w)) [t1, (.int .i64 0)] w
theorem F50_eq (t0 t1 t2 : Value) : funE P ⟨[(4, 1012)], [(2, [1, 12])], [(5, [1])]⟩ Tryz.f50 [t0, t1, t2] w K = F50 P w K t0 t1 t2 := by kernel_rfl
theorem F50_ok (t0 t1 t2 : Value) (h : F50 Tryz.prog w K t0 t1 t2) : callsK Tryz.prog 50 #[t0, t1, t2] w K := calls_of_eq mixedX Tryz.func50 (F50_eq _ w K t0 t1 t2) h
def F53 (t0 t1 : Value) : Prop :=
 kV P (Instr.box 37 t0) w fun v2 w =>
 kV P (Instr.alloc 37 true (.tuple #[])) w fun v4 w =>
 kV P (Instr.loadAt 37 v2) w fun v5 w =>
 kV P (Instr.fieldAt 37 v2 2) w fun v6 w =>
 kV P (Instr.loadAt 35 v6) w fun v7 w =>
 kV P (binV .add 35 (.tmp 7) (.tmp 8) v7 t1) w fun v9 w =>
 kN P (callN (.func (.func 101) #[] #[]) #[v5, v9]) w fun v10 w =>
 kU P (Instr.storeAt 37 v4 v10) w fun _ w =>
 retV P 37 v4 w fun r0 =>
 K r0 w
theorem F53_eq (t0 t1 : Value) : funE P ⟨[], [], []⟩ Tryz.f53 [t0, t1] w K = F53 P w K t0 t1 := by kernel_rfl
theorem F53_ok (t0 t1 : Value) (h : F53 Tryz.prog w K t0 t1) : callsK Tryz.prog 53 #[t0, t1] w K := calls_of_eq mixedX Tryz.func53 (F53_eq _ w K t0 t1) h
def F60 (t0 t1 t2 : Value) : Prop :=
 kV P (Instr.box 32 t0) w fun v3 w =>
 kV P (binV .eql 3 (.tmp 7) (.const (.int .i64 1)) t2 (.int .i64 1)) w fun v8 w =>
 joinK (fun J0 : Value -> World -> Prop => gdK (yb v8) false (fun k => k t2 w) w fun v10 w =>
 gdK (yb v8) false (fun k => kV P (binV .eql 3 (.tmp 10) (.const (.int .i64 2)) v10 (.int .i64 2)) w k) w fun v11 w =>
 kN P (pickN v8 (.bool true) v11) w fun v12_1 w =>
 J0 v12_1 w) fun v12 w =>
 joinK (fun J1 : Value -> World -> Prop => gdK (yb v12) false (fun k => k t2 w) w fun v14 w =>
 gdK (yb v12) false (fun k => kV P (binV .eql 3 (.tmp 14) (.const (.int .i64 4)) v14 (.int .i64 4)) w k) w fun v15 w =>
 kN P (pickN v12 (.bool true) v15) w fun v16_1 w =>
 J1 v16_1 w) fun v16 w =>
 joinK (fun J2 : Value -> World -> Prop => gdK (yb v16) false (fun k => k t2 w) w fun v18 w =>
 gdK (yb v16) false (fun k => kV P (binV .eql 3 (.tmp 18) (.const (.int .i64 8)) v18 (.int .i64 8)) w k) w fun v19 w =>
 kN P (pickN v16 (.bool true) v19) w fun v20_1 w =>
 J2 v20_1 w) fun v20 w =>
 joinK (fun J3 : Value -> World -> Prop => gdK (yb v20) true (fun k => k t1 w) w fun v22 w =>
 gdK (yb v20) true (fun k => k t2 w) w fun v23 w =>
 gdK (yb v20) true (fun k => kV P (convert 3 35 v23) w k) w fun v24 w =>
 gdK (yb v20) true (fun k => kV P (binV .rem 35 (.tmp 22) (.tmp 24) v22 v24) w k) w fun v25 w =>
 gdK (yb v20) true (fun k => kV P (binV .eql 35 (.tmp 25) (.const (.int .u64 0)) v25 (.int .u64 0)) w k) w fun v26 w =>
 kN P (pickN v20 v26 (.bool false)) w fun v27_1 w =>
 J3 v27_1 w) fun v27 w =>
 joinK (fun J4 : Value -> World -> Prop => gdK (yb v27) true (fun k => k t1 w) w fun v29 w =>
 gdK (yb v27) true (fun k => kV P (Instr.loadAt 32 v3) w k) w fun v30 w =>
 gdK (yb v27) true (fun k => kN P (callN (.func (.func 64) #[] #[]) #[v30]) w k) w fun v31 w =>
 gdK (yb v27) true (fun k => kV P (binV .lss 35 (.tmp 29) (.tmp 31) v29 v31) w k) w fun v32 w =>
 kN P (pickN v27 v32 (.bool false)) w fun v33_1 w =>
 J4 v33_1 w) fun v33 w =>
 K v33 w
theorem F60_eq (t0 t1 t2 : Value) : funE P ⟨[], [], []⟩ Tryz.f60 [t0, t1, t2] w K = F60 P w K t0 t1 t2 := by kernel_rfl
theorem F60_ok (t0 t1 t2 : Value) (h : F60 Tryz.prog w K t0 t1 t2) : callsK Tryz.prog 60 #[t0, t1, t2] w K := calls_of_eq mixedX Tryz.func60 (F60_eq _ w K t0 t1 t2) h
def F61 (t0 t1 t2 : Value) : Prop :=
 kV P (Instr.box 32 t0) w fun v3 w =>
 kV P (Instr.alloc 32 true (.tuple #[])) w fun v6 w =>
 kV P (Instr.buildSlice 29 0 #[]) w fun v7 w =>
 kV P (Instr.fieldAt 32 v3 1) w fun v8 w =>
 kV P (Instr.loadAt 29 v8) w fun v9 w =>
 kV P (Builtin.append_ #[29, 29] 29 #[v7, v9]) w fun v10 w =>
 kV P (Instr.buildSlice 29 1 #[(0, t1)]) w fun v12 w =>
 kV P (Builtin.append_ #[29, 29] 29 #[v10, v12]) w fun v13 w =>
 kV P (Instr.fieldAt 32 v3 1) w fun v14 w =>
 kU P (Instr.storeAt 29 v14 v13) w fun _ w =>
 kV P (Instr.buildSlice 30 0 #[]) w fun v15 w =>
 kV P (Instr.fieldAt 32 v3 2) w fun v16 w =>
 kV P (Instr.loadAt 30 v16) w fun v17 w =>
 kV P (Builtin.append_ #[30, 30] 30 #[v15, v17]) w fun v18 w =>
 kV P (Instr.buildSlice 30 1 #[(0, t2)]) w fun v20 w =>
 kV P (Builtin.append_ #[30, 30] 30 #[v18, v20]) w fun v21 w =>
 kV P (Instr.fieldAt 32 v3 2) w fun v22 w =>
 kU P (Instr.storeAt 30 v22 v21) w fun _ w =>
 kV P (Instr.loadAt 32 v3) w fun v23 w =>
 kV P (binV .quo 35 (.tmp 24) (.const (.int .u64 16)) t1 (.int .u64 16)) w fun v25 w =>
 kV P (binV .mul 35 (.tmp 25) (.const (.int .u64 16)) v25 (.int .u64 16)) w fun v26 w =>
 kN P (callN (.func (.func 103) #[] #[]) #[v23, v26]) w fun v27 w =>
 kU P (Instr.storeAt 32 v6 v27) w fun _ w =>
 retV P 32 v6 w fun r0 =>
 K r0 w
theorem F61_eq (t0 t1 t2 : Value) : funE P ⟨[], [], []⟩ Tryz.f61 [t0, t1, t2] w K = F61 P w K t0 t1 t2 := by kernel_rfl
theorem F61_ok (t0 t1 t2 : Value) (h : F61 Tryz.prog w K t0 t1 t2) : callsK Tryz.prog 61 #[t0, t1, t2] w K := calls_of_eq mixedX Tryz.func61 (F61_eq _ w K t0 t1 t2) h
def F64 (t0 : Value) : Prop :=
 kV P (Instr.box 32 t0) w fun v1 w =>
 kV P (Instr.fieldAt 32 v1 0) w fun v3 w =>
 kV P (Instr.loadAt 3 v3) w fun v4 w =>
 kV P (convert 3 35 v4) w fun v5 w =>
 kV P (binV .mul 35 (.tmp 5) (.const (.int .u64 4096)) v5 (.int .u64 4096)) w fun v6 w =>
 K v6 w
theorem F64_eq (t0 : Value) : funE P ⟨[], [], []⟩ Tryz.f64 [t0] w K = F64 P w K t0 := by kernel_rfl
theorem F64_ok (t0 : Value) (h : F64 Tryz.prog w K t0) : callsK Tryz.prog 64 #[t0] w K := calls_of_eq mixedX Tryz.func64 (F64_eq _ w K t0) h
def F66 (t0 : Value) : Prop :=
 kV P (Instr.box 37 t0) w fun v1 w =>
 kV P (Instr.alloc 162 true (.tuple #[])) w fun v2 w =>
 kV P (Instr.loadAt 37 v1) w fun v6 w =>
 kN P (callN (.func (.func 105) #[] #[]) #[v6]) w fun v7 w =>
 kV P (Instr.extract v7 0) w fun v8 w =>
 kV P (Instr.extract v7 1) w fun v9 w =>
 kV P (Instr.alloc 160 true (.tuple #[])) w fun v3 w =>
 kU P (Instr.storeAt 160 v3 v8) w fun _ w =>
 drewK (fun w =>
 relX fun R0 =>
 postX R0 (fun p0_10 => allX R0 w fun V0 w => True -> kV P (Instr.loadAt 37 v1) w (okX R0 w p0_10)) fun p0_10 =>
 postX R0 (fun p0_11 => allX R0 w fun V0 w => True -> kV P (Instr.loadAt 160 v3) w (okX R0 w p0_11)) fun p0_11 =>
 postX R0 (fun p0_12 => allX R0 w fun V0 w => True -> kV P (Instr.fieldAt 37 v1 0) w (okX R0 w p0_12)) fun p0_12 =>
 postX R0 (fun p0_13 => allX R0 w fun V0 w => p0_12 (V0 12) w /\ True -> kV P (Instr.loadAt 4 (V0 12)) w (okX R0 w p0_13)) fun p0_13 =>
 postX R0 (fun p0_14 => allX R0 w fun V0 w => p0_13 (V0 13) w /\ True -> (okX R0 w p0_14) (V0 13) w) fun p0_14 =>
 postX R0 (fun p0_15 => allX R0 w fun V0 w => p0_14 (V0 14) w /\ True -> gdK (yb (V0 14)) true (fun k => kV P (Instr.loadAt 37 v1) w k) w (okX R0 w p0_15)) fun p0_15 =>
 postX R0 (fun p0_16 => allX R0 w fun V0 w => p0_14 (V0 14) w /\ p0_15 (V0 15) w /\ True -> gdK (yb (V0 14)) true (fun k => kN P (callN (.func (.func 106) #[] #[]) #[(V0 15)]) w k) w (okX R0 w p0_16)) fun p0_16 =>
 postX R0 (fun p0_17 => allX R0 w fun V0 w => p0_14 (V0 14) w /\ p0_16 (V0 16) w /\ True -> kN P (pickN (V0 14) (V0 16) (.bool false)) w (okX R0 w p0_17)) fun p0_17 =>
 allX R0 w fun V0 w => p0_10 (V0 10) w /\ p0_11 (V0 11) w /\ p0_12 (V0 12) w /\ p0_13 (V0 13) w /\ p0_14 (V0 14) w /\ p0_15 (V0 15) w /\ p0_16 (V0 16) w /\ p0_17 (V0 17) w /\ True -> xDist V0 [] ->
 kV P (Instr.build 162 #[(0, (V0 10)), (1, (V0 11)), (2, (V0 17))]) w fun v18 w =>
 kU P (Instr.storeAt 162 v2 v18) w fun _ w =>
 retV P 162 v2 w fun r1 =>
 K r1 w) w
theorem F66_eq (t0 : Value) : funE P ⟨[(2, 1008)], [], []⟩ Tryz.f66 [t0] w K = F66 P w K t0 := by kernel_rfl
theorem F66_ok (t0 : Value) (h : F66 Tryz.prog w K t0) : callsK Tryz.prog 66 #[t0] w K := calls_of_eq mixedX Tryz.func66 (F66_eq _ w K t0) h
def F67 (t0 : Value) : Prop :=
 kV P (Instr.box 162 t0) w fun v1 w =>
 kV P (Instr.fieldAt 162 v1 2) w fun v3 w =>
 kV P (Instr.loadAt 4 v3) w fun v4 w =>
 joinK (fun J0 : Value -> World -> Prop => gdK (yb v4) true (fun k => kV P (Instr.fieldAt 162 v1 1) w k) w fun v6 w =>
 gdK (yb v4) true (fun k => kV P (Instr.fieldAt 160 v6 2) w k) w fun v7 w =>
 gdK (yb v4) true (fun k => kV P (Instr.loadAt 35 v7) w k) w fun v8 w =>
 gdK (yb v4) true (fun k => kV P (binV .eql 35 (.tmp 8) (.const (.int .u64 0)) v8 (.int .u64 0)) w k) w fun v9 w =>
 kN P (pickN v4 v9 (.bool false)) w fun v10_1 w =>
 J0 v10_1 w) fun v10 w =>
 K v10 w
theorem F67_eq (t0 : Value) : funE P ⟨[], [], []⟩ Tryz.f67 [t0] w K = F67 P w K t0 := by kernel_rfl
theorem F67_ok (t0 : Value) (h : F67 Tryz.prog w K t0) : callsK Tryz.prog 67 #[t0] w K := calls_of_eq mixedX Tryz.func67 (F67_eq _ w K t0) h
def F68 (t0 t1 : Value) : Prop :=
 kV P (binV .andNot 35 (.tmp 5) (.tmp 6) t0 t1) w fun v7 w =>
 kV P (binV .eql 35 (.tmp 7) (.const (.int .u64 0)) v7 (.int .u64 0)) w fun v8 w =>
 K v8 w
theorem F68_eq (t0 t1 : Value) : funE P ⟨[], [], []⟩ Tryz.f68 [t0, t1] w K = F68 P w K t0 t1 := by kernel_rfl
theorem F68_ok (t0 t1 : Value) (h : F68 Tryz.prog w K t0 t1) : callsK Tryz.prog 68 #[t0, t1] w K := calls_of_eq mixedX Tryz.func68 (F68_eq _ w K t0 t1) h
def F69 (t0 : Value) : Prop :=
 kV P (binV .eql 3 (.tmp 3) (.const (.int .i64 0)) t0 (.int .i64 0)) w fun v5 w =>
 condK v5
 (K (.int .u64 4) w)
 (kV P (binV .eql 3 (.tmp 3) (.const (.int .i64 1)) t0 (.int .i64 1)) w fun v7 w =>
 condK v7
 (K (.int .u64 1) w)
 (kV P (binV .eql 3 (.tmp 3) (.const (.int .i64 2)) t0 (.int .i64 2)) w fun v9 w =>
 condK v9
 (K (.int .u64 2) w)
 (kV P (binV .eql 3 (.tmp 3) (.const (.int .i64 3)) t0 (.int .i64 3)) w fun v11 w =>
 condK v11
 (K (.int .u64 9) w)
 (kV P (binV .eql 3 (.tmp 3) (.const (.int .i64 4)) t0 (.int .i64 4)) w fun v13 w =>
 condK v13
 (K (.int .u64 18) w)
 (K (.int .u64 511) w)))))
theorem F69_eq (t0 : Value) : funE P ⟨[], [], []⟩ Tryz.f69 [t0] w K = F69 P w K t0 := by kernel_rfl
theorem F69_ok (t0 : Value) (h : F69 Tryz.prog w K t0) : callsK Tryz.prog 69 #[t0] w K := calls_of_eq mixedX Tryz.func69 (F69_eq _ w K t0) h
def F70 (t0 t1 t2 t3 : Value) : Prop :=
 kN P (callN (.func (.func 107) #[] #[]) #[t0, t1]) w fun v14 w =>
 kV P (Instr.extract v14 0) w fun v15 w =>
 kV P (Instr.extract v14 1) w fun v16 w =>
 kV P (Op.unary .not v16) w fun v18 w =>
 joinK (fun J0 : Value -> World -> Prop => gdK (yb v18) true (fun k => k t2 w) w fun v20 w =>
 gdK (yb v18) true (fun k => k t0 w) w fun v21 w =>
 gdK (yb v18) true (fun k => kV P (binV .leq 35 (.tmp 20) (.tmp 21) v20 v21) w k) w fun v22 w =>
 kN P (pickN v18 v22 (.bool false)) w fun v23_1 w =>
 J0 v23_1 w) fun v23 w =>
 joinK (fun J1 : Value -> World -> Prop => gdK (yb v23) true (fun k => k v15 w) w fun v25 w =>
 gdK (yb v23) true (fun k => k t3 w) w fun v26 w =>
 gdK (yb v23) true (fun k => kV P (binV .leq 35 (.tmp 25) (.tmp 26) v25 v26) w k) w fun v27 w =>
 kN P (pickN v23 v27 (.bool false)) w fun v28_1 w =>
 J1 v28_1 w) fun v28 w =>
 K v28 w
theorem F70_eq (t0 t1 t2 t3 : Value) : funE P ⟨[], [], []⟩ Tryz.f70 [t0, t1, t2, t3] w K = F70 P w K t0 t1 t2 t3 := by kernel_rfl
theorem F70_ok (t0 t1 t2 t3 : Value) (h : F70 Tryz.prog w K t0 t1 t2 t3) : callsK Tryz.prog 70 #[t0, t1, t2, t3] w K := calls_of_eq mixedX Tryz.func70 (F70_eq _ w K t0 t1 t2 t3) h
def F71 : Prop :=
 kV P (Instr.alloc 167 true (.tuple #[])) w fun v0 w =>
 kV P (Instr.build 114 #[(0, (.string ⟨#[108, 117, 105]⟩)), (1, (.int .u8 85)), (2, (.int .u64 55)), (3, (.int .u64 0)), (4, (.int .u64 0))]) w fun v1 w =>
 kV P (Instr.build 114 #[(0, (.string ⟨#[97, 117, 105, 112, 99]⟩)), (1, (.int .u8 85)), (2, (.int .u64 23)), (3, (.int .u64 0)), (4, (.int .u64 0))]) w fun v2 w =>
 kV P (Instr.build 114 #[(0, (.string ⟨#[106, 97, 108]⟩)), (1, (.int .u8 74)), (2, (.int .u64 111)), (3, (.int .u64 0)), (4, (.int .u64 0))]) w fun v3 w =>
 kV P (Instr.build 114 #[(0, (.string ⟨#[106, 97, 108, 114]⟩)), (1, (.int .u8 73)), (2, (.int .u64 103)), (3, (.int .u64 0)), (4, (.int .u64 0))]) w fun v4 w =>
 kV P (Instr.build 114 #[(0, (.string ⟨#[98, 101, 113]⟩)), (1, (.int .u8 66)), (2, (.int .u64 99)), (3, (.int .u64 0)), (4, (.int .u64 0))]) w fun v5 w =>
 kV P (Instr.build 114 #[(0, (.string ⟨#[98, 110, 101]⟩)), (1, (.int .u8 66)), (2, (.int .u64 99)), (3, (.int .u64 1)), (4, (.int .u64 0))]) w fun v6 w =>
 kV P (Instr.build 114 #[(0, (.string ⟨#[98, 108, 116]⟩)), (1, (.int .u8 66)), (2, (.int .u64 99)), (3, (.int .u64 4)), (4, (.int .u64 0))]) w fun v7 w =>
 kV P (Instr.build 114 #[(0, (.string ⟨#[98, 103, 101]⟩)), (1, (.int .u8 66)), (2, (.int .u64 99)), (3, (.int .u64 5)), (4, (.int .u64 0))]) w fun v8 w =>
 kV P (Instr.build 114 #[(0, (.string ⟨#[98, 108, 116, 117]⟩)), (1, (.int .u8 66)), (2, (.int .u64 99)), (3, (.int .u64 6)), (4, (.int .u64 0))]) w fun v9 w =>
 kV P (Instr.build 114 #[(0, (.string ⟨#[98, 103, 101, 117]⟩)), (1, (.int .u8 66)), (2, (.int .u64 99)), (3, (.int .u64 7)), (4, (.int .u64 0))]) w fun v10 w =>
 kV P (Instr.build 114 #[(0, (.string ⟨#[108, 98]⟩)), (1, (.int .u8 73)), (2, (.int .u64 3)), (3, (.int .u64 0)), (4, (.int .u64 0))]) w fun v11 w =>
 kV P (Instr.build 114 #[(0, (.string ⟨#[108, 104]⟩)), (1, (.int .u8 73)), (2, (.int .u64 3)), (3, (.int .u64 1)), (4, (.int .u64 0))]) w fun v12 w =>
 kV P (Instr.build 114 #[(0, (.string ⟨#[108, 119]⟩)), (1, (.int .u8 73)), (2, (.int .u64 3)), (3, (.int .u64 2)), (4, (.int .u64 0))]) w fun v13 w =>
 kV P (Instr.build 114 #[(0, (.string ⟨#[108, 100]⟩)), (1, (.int .u8 73)), (2, (.int .u64 3)), (3, (.int .u64 3)), (4, (.int .u64 0))]) w fun v14 w =>
 kV P (Instr.build 114 #[(0, (.string ⟨#[108, 98, 117]⟩)), (1, (.int .u8 73)), (2, (.int .u64 3)), (3, (.int .u64 4)), (4, (.int .u64 0))]) w fun v15 w =>
 kV P (Instr.build 114 #[(0, (.string ⟨#[108, 104, 117]⟩)), (1, (.int .u8 73)), (2, (.int .u64 3)), (3, (.int .u64 5)), (4, (.int .u64 0))]) w fun v16 w =>
 kV P (Instr.build 114 #[(0, (.string ⟨#[108, 119, 117]⟩)), (1, (.int .u8 73)), (2, (.int .u64 3)), (3, (.int .u64 6)), (4, (.int .u64 0))]) w fun v17 w =>
 kV P (Instr.build 114 #[(0, (.string ⟨#[115, 98]⟩)), (1, (.int .u8 83)), (2, (.int .u64 35)), (3, (.int .u64 0)), (4, (.int .u64 0))]) w fun v18 w =>
 kV P (Instr.build 114 #[(0, (.string ⟨#[115, 104]⟩)), (1, (.int .u8 83)), (2, (.int .u64 35)), (3, (.int .u64 1)), (4, (.int .u64 0))]) w fun v19 w =>
 kV P (Instr.build 114 #[(0, (.string ⟨#[115, 119]⟩)), (1, (.int .u8 83)), (2, (.int .u64 35)), (3, (.int .u64 2)), (4, (.int .u64 0))]) w fun v20 w =>
 kV P (Instr.build 114 #[(0, (.string ⟨#[115, 100]⟩)), (1, (.int .u8 83)), (2, (.int .u64 35)), (3, (.int .u64 3)), (4, (.int .u64 0))]) w fun v21 w =>
 kV P (Instr.build 114 #[(0, (.string ⟨#[97, 100, 100, 105]⟩)), (1, (.int .u8 73)), (2, (.int .u64 19)), (3, (.int .u64 0)), (4, (.int .u64 0))]) w fun v22 w =>
 kV P (Instr.build 114 #[(0, (.string ⟨#[115, 108, 116, 105]⟩)), (1, (.int .u8 73)), (2, (.int .u64 19)), (3, (.int .u64 2)), (4, (.int .u64 0))]) w fun v23 w =>
 kV P (Instr.build 114 #[(0, (.string ⟨#[115, 108, 116, 105, 117]⟩)), (1, (.int .u8 73)), (2, (.int .u64 19)), (3, (.int .u64 3)), (4, (.int .u64 0))]) w fun v24 w =>
 kV P (Instr.build 114 #[(0, (.string ⟨#[120, 111, 114, 105]⟩)), (1, (.int .u8 73)), (2, (.int .u64 19)), (3, (.int .u64 4)), (4, (.int .u64 0))]) w fun v25 w =>
 kV P (Instr.build 114 #[(0, (.string ⟨#[111, 114, 105]⟩)), (1, (.int .u8 73)), (2, (.int .u64 19)), (3, (.int .u64 6)), (4, (.int .u64 0))]) w fun v26 w =>
 kV P (Instr.build 114 #[(0, (.string ⟨#[97, 110, 100, 105]⟩)), (1, (.int .u8 73)), (2, (.int .u64 19)), (3, (.int .u64 7)), (4, (.int .u64 0))]) w fun v27 w =>
 kV P (Instr.build 114 #[(0, (.string ⟨#[115, 108, 108, 105]⟩)), (1, (.int .u8 72)), (2, (.int .u64 19)), (3, (.int .u64 1)), (4, (.int .u64 0))]) w fun v28 w =>
 kV P (Instr.build 114 #[(0, (.string ⟨#[115, 114, 108, 105]⟩)), (1, (.int .u8 72)), (2, (.int .u64 19)), (3, (.int .u64 5)), (4, (.int .u64 0))]) w fun v29 w =>
 kV P (Instr.build 114 #[(0, (.string ⟨#[115, 114, 97, 105]⟩)), (1, (.int .u8 72)), (2, (.int .u64 19)), (3, (.int .u64 5)), (4, (.int .u64 16))]) w fun v30 w =>
 kV P (Instr.build 114 #[(0, (.string ⟨#[97, 100, 100]⟩)), (1, (.int .u8 82)), (2, (.int .u64 51)), (3, (.int .u64 0)), (4, (.int .u64 0))]) w fun v31 w =>
 kV P (Instr.build 114 #[(0, (.string ⟨#[115, 117, 98]⟩)), (1, (.int .u8 82)), (2, (.int .u64 51)), (3, (.int .u64 0)), (4, (.int .u64 32))]) w fun v32 w =>
 kV P (Instr.build 114 #[(0, (.string ⟨#[115, 108, 108]⟩)), (1, (.int .u8 82)), (2, (.int .u64 51)), (3, (.int .u64 1)), (4, (.int .u64 0))]) w fun v33 w =>
 kV P (Instr.build 114 #[(0, (.string ⟨#[115, 108, 116]⟩)), (1, (.int .u8 82)), (2, (.int .u64 51)), (3, (.int .u64 2)), (4, (.int .u64 0))]) w fun v34 w =>
 kV P (Instr.build 114 #[(0, (.string ⟨#[115, 108, 116, 117]⟩)), (1, (.int .u8 82)), (2, (.int .u64 51)), (3, (.int .u64 3)), (4, (.int .u64 0))]) w fun v35 w =>
 kV P (Instr.build 114 #[(0, (.string ⟨#[120, 111, 114]⟩)), (1, (.int .u8 82)), (2, (.int .u64 51)), (3, (.int .u64 4)), (4, (.int .u64 0))]) w fun v36 w =>
 kV P (Instr.build 114 #[(0, (.string ⟨#[115, 114, 108]⟩)), (1, (.int .u8 82)), (2, (.int .u64 51)), (3, (.int .u64 5)), (4, (.int .u64 0))]) w fun v37 w =>
 kV P (Instr.build 114 #[(0, (.string ⟨#[115, 114, 97]⟩)), (1, (.int .u8 82)), (2, (.int .u64 51)), (3, (.int .u64 5)), (4, (.int .u64 32))]) w fun v38 w =>
 kV P (Instr.build 114 #[(0, (.string ⟨#[111, 114]⟩)), (1, (.int .u8 82)), (2, (.int .u64 51)), (3, (.int .u64 6)), (4, (.int .u64 0))]) w fun v39 w =>
 kV P (Instr.build 114 #[(0, (.string ⟨#[97, 110, 100]⟩)), (1, (.int .u8 82)), (2, (.int .u64 51)), (3, (.int .u64 7)), (4, (.int .u64 0))]) w fun v40 w =>
 kV P (Instr.build 114 #[(0, (.string ⟨#[101, 99, 97, 108, 108]⟩)), (1, (.int .u8 78)), (2, (.int .u64 115)), (3, (.int .u64 0)), (4, (.int .u64 0))]) w fun v41 w =>
 kV P (Instr.build 114 #[(0, (.string ⟨#[101, 98, 114, 101, 97, 107]⟩)), (1, (.int .u8 78)), (2, (.int .u64 115)), (3, (.int .u64 0)), (4, (.int .u64 1))]) w fun v42 w =>
 kV P (Instr.build 114 #[(0, (.string ⟨#[99, 108, 99]⟩)), (1, (.int .u8 73)), (2, (.int .u64 15)), (3, (.int .u64 2)), (4, (.int .u64 0))]) w fun v43 w =>
 kV P (Instr.build 114 #[(0, (.string ⟨#[99, 115, 99]⟩)), (1, (.int .u8 83)), (2, (.int .u64 35)), (3, (.int .u64 4)), (4, (.int .u64 0))]) w fun v44 w =>
 kV P (Instr.build 114 #[(0, (.string ⟨#[99, 115, 101, 116, 98, 111, 117, 110, 100, 115]⟩)), (1, (.int .u8 82)), (2, (.int .u64 91)), (3, (.int .u64 0)), (4, (.int .u64 8))]) w fun v45 w =>
 kV P (Instr.build 114 #[(0, (.string ⟨#[99, 115, 101, 116, 98, 111, 117, 110, 100, 115, 101, 120, 97, 99, 116]⟩)), (1, (.int .u8 82)), (2, (.int .u64 91)), (3, (.int .u64 0)), (4, (.int .u64 9))]) w fun v46 w =>
 kV P (Instr.build 114 #[(0, (.string ⟨#[99, 115, 101, 97, 108]⟩)), (1, (.int .u8 82)), (2, (.int .u64 91)), (3, (.int .u64 0)), (4, (.int .u64 11))]) w fun v47 w =>
 kV P (Instr.build 114 #[(0, (.string ⟨#[99, 117, 110, 115, 101, 97, 108]⟩)), (1, (.int .u8 82)), (2, (.int .u64 91)), (3, (.int .u64 0)), (4, (.int .u64 12))]) w fun v48 w =>
 kV P (Instr.build 114 #[(0, (.string ⟨#[99, 97, 110, 100, 112, 101, 114, 109]⟩)), (1, (.int .u8 82)), (2, (.int .u64 91)), (3, (.int .u64 0)), (4, (.int .u64 13))]) w fun v49 w =>
 kV P (Instr.build 114 #[(0, (.string ⟨#[99, 115, 101, 116, 97, 100, 100, 114]⟩)), (1, (.int .u8 82)), (2, (.int .u64 91)), (3, (.int .u64 0)), (4, (.int .u64 16))]) w fun v50 w =>
 kV P (Instr.build 114 #[(0, (.string ⟨#[99, 105, 110, 99, 111, 102, 102, 115, 101, 116]⟩)), (1, (.int .u8 82)), (2, (.int .u64 91)), (3, (.int .u64 0)), (4, (.int .u64 17))]) w fun v51 w =>
 kV P (Instr.build 114 #[(0, (.string ⟨#[99, 115, 117, 98]⟩)), (1, (.int .u8 82)), (2, (.int .u64 91)), (3, (.int .u64 0)), (4, (.int .u64 20))]) w fun v52 w =>
 kV P (Instr.build 114 #[(0, (.string ⟨#[99, 98, 117, 105, 108, 100, 99, 97, 112]⟩)), (1, (.int .u8 82)), (2, (.int .u64 91)), (3, (.int .u64 0)), (4, (.int .u64 29))]) w fun v53 w =>
 kV P (Instr.build 114 #[(0, (.string ⟨#[99, 116, 101, 115, 116, 115, 117, 98, 115, 101, 116]⟩)), (1, (.int .u8 82)), (2, (.int .u64 91)), (3, (.int .u64 0)), (4, (.int .u64 32))]) w fun v54 w =>
 kV P (Instr.build 114 #[(0, (.string ⟨#[99, 115, 101, 116, 101, 113, 117, 97, 108]⟩)), (1, (.int .u8 82)), (2, (.int .u64 91)), (3, (.int .u64 0)), (4, (.int .u64 33))]) w fun v55 w =>
 kV P (Instr.build 114 #[(0, (.string ⟨#[99, 103, 101, 116, 112, 101, 114, 109]⟩)), (1, (.int .u8 71)), (2, (.int .u64 91)), (3, (.int .u64 0)), (4, (.int .u64 0))]) w fun v56 w =>
 kV P (Instr.build 114 #[(0, (.string ⟨#[99, 103, 101, 116, 116, 121, 112, 101]⟩)), (1, (.int .u8 71)), (2, (.int .u64 91)), (3, (.int .u64 0)), (4, (.int .u64 1))]) w fun v57 w =>
 kV P (Instr.build 114 #[(0, (.string ⟨#[99, 103, 101, 116, 98, 97, 115, 101]⟩)), (1, (.int .u8 71)), (2, (.int .u64 91)), (3, (.int .u64 0)), (4, (.int .u64 2))]) w fun v58 w =>
 kV P (Instr.build 114 #[(0, (.string ⟨#[99, 103, 101, 116, 108, 101, 110]⟩)), (1, (.int .u8 71)), (2, (.int .u64 91)), (3, (.int .u64 0)), (4, (.int .u64 3))]) w fun v59 w =>
 kV P (Instr.build 114 #[(0, (.string ⟨#[99, 103, 101, 116, 116, 97, 103]⟩)), (1, (.int .u8 71)), (2, (.int .u64 91)), (3, (.int .u64 0)), (4, (.int .u64 4))]) w fun v60 w =>
 kV P (Instr.build 114 #[(0, (.string ⟨#[99, 103, 101, 116, 111, 102, 102, 115, 101, 116]⟩)), (1, (.int .u8 71)), (2, (.int .u64 91)), (3, (.int .u64 0)), (4, (.int .u64 6))]) w fun v61 w =>
 kV P (Instr.build 114 #[(0, (.string ⟨#[99, 114, 114, 108]⟩)), (1, (.int .u8 71)), (2, (.int .u64 91)), (3, (.int .u64 0)), (4, (.int .u64 8))]) w fun v62 w =>
 kV P (Instr.build 114 #[(0, (.string ⟨#[99, 114, 97, 109]⟩)), (1, (.int .u8 71)), (2, (.int .u64 91)), (3, (.int .u64 0)), (4, (.int .u64 9))]) w fun v63 w =>
 kV P (Instr.build 114 #[(0, (.string ⟨#[99, 109, 111, 118, 101]⟩)), (1, (.int .u8 71)), (2, (.int .u64 91)), (3, (.int .u64 0)), (4, (.int .u64 10))]) w fun v64 w =>
 kV P (Instr.build 114 #[(0, (.string ⟨#[99, 99, 108, 101, 97, 114, 116, 97, 103]⟩)), (1, (.int .u8 71)), (2, (.int .u64 91)), (3, (.int .u64 0)), (4, (.int .u64 11))]) w fun v65 w =>
 kV P (Instr.build 114 #[(0, (.string ⟨#[99, 103, 101, 116, 97, 100, 100, 114]⟩)), (1, (.int .u8 71)), (2, (.int .u64 91)), (3, (.int .u64 0)), (4, (.int .u64 15))]) w fun v66 w =>
 kV P (Instr.build 114 #[(0, (.string ⟨#[99, 115, 101, 97, 108, 101, 110, 116, 114, 121]⟩)), (1, (.int .u8 71)), (2, (.int .u64 91)), (3, (.int .u64 0)), (4, (.int .u64 17))]) w fun v67 w =>
 kV P (Instr.build 114 #[(0, (.string ⟨#[99, 105, 110, 99, 111, 102, 102, 115, 101, 116, 105, 109, 109]⟩)), (1, (.int .u8 73)), (2, (.int .u64 91)), (3, (.int .u64 1)), (4, (.int .u64 0))]) w fun v68 w =>
 kV P (Instr.build 114 #[(0, (.string ⟨#[99, 115, 101, 116, 98, 111, 117, 110, 100, 115, 105, 109, 109]⟩)), (1, (.int .u8 67)), (2, (.int .u64 91)), (3, (.int .u64 2)), (4, (.int .u64 0))]) w fun v69 w =>
 kV P (Instr.build 167 #[(0, v1), (1, v2), (2, v3), (3, v4), (4, v5), (5, v6), (6, v7), (7, v8), (8, v9), (9, v10), (10, v11), (11, v12), (12, v13), (13, v14), (14, v15), (15, v16), (16, v17), (17, v18), (18, v19), (19, v20), (20, v21), (21, v22), (22, v23), (23, v24), (24, v25), (25, v26), (26, v27), (27, v28), (28, v29), (29, v30), (30, v31), (31, v32), (32, v33), (33, v34), (34, v35), (35, v36), (36, v37), (37, v38), (38, v39), (39, v40), (40, v41), (41, v42), (42, v43), (43, v44), (44, v45), (45, v46), (46, v47), (47, v48), (48, v49), (49, v50), (50, v51), (51, v52), (52, v53), (53, v54), (54, v55), (55, v56), (56, v57), (57, v58), (58, v59), (59, v60), (60, v61), (61, v62), (62, v63), (63, v64), (64, v65), (65, v66), (66, v67), (67, v68), (68, v69)]) w fun v70 w =>
 kU P (Instr.storeAt 167 v0 v70) w fun _ w =>
 retV P 167 v0 w fun r0 =>
 K r0 w
theorem F71_eq : funE P ⟨[], [], []⟩ Tryz.f71 [] w K = F71 P w K  := by kernel_rfl
theorem F71_ok  (h : F71 Tryz.prog w K ) : callsK Tryz.prog 71 #[] w K := calls_of_eq mixedX Tryz.func71 (F71_eq _ w K ) h
def F72 (t0 t1 : Value) : Prop :=
 kV P (Instr.box 119 t0) w fun v2 w =>
 kV P (Instr.fieldAt 119 v2 0) w fun v8 w =>
 kV P (Instr.loadAt 117 v8) w fun v9 w =>
 kV P (Builtin.len_ #[117] 3 #[v9]) w fun v10 w =>
 loopT (fun R0 s0 w => ∀ _ : Nat -> Value,
 kV P (binV .lss 3 (.tmp 11) (.tmp 10) (s0.getD 1 undef) v10) w fun v12 w =>
 condK v12
 (joinL (fun J2 =>
 kV P (Instr.indexAt 117 v9 (s0.getD 1 undef)) w fun v13 w =>
 kV P (Instr.loadAt 188 v13) w fun v14 w =>
 kV P (Instr.alloc 188 true (.tuple #[])) w fun v7 w =>
 kU P (Instr.storeAt 188 v7 v14) w fun _ w =>
 drewK (fun w =>
 relX fun R4 =>
 postX R4 (fun p4_15 => allX R4 w fun V4 w => True -> (okX R4 w p4_15) (s0.getD 0 undef) w) fun p4_15 =>
 postX R4 (fun p4_16 => allX R4 w fun V4 w => True -> kV P (Instr.fieldAt 188 v7 0) w (okX R4 w p4_16)) fun p4_16 =>
 postX R4 (fun p4_17 => allX R4 w fun V4 w => p4_16 (V4 16) w /\ True -> kV P (Instr.loadAt 3 (V4 16)) w (okX R4 w p4_17)) fun p4_17 =>
 postX R4 (fun p4_18 => allX R4 w fun V4 w => True -> kV P (Instr.fieldAt 188 v7 1) w (okX R4 w p4_18)) fun p4_18 =>
 postX R4 (fun p4_19 => allX R4 w fun V4 w => p4_18 (V4 18) w /\ True -> kV P (Instr.loadAt 3 (V4 18)) w (okX R4 w p4_19)) fun p4_19 =>
 postX R4 (fun p4_20 => allX R4 w fun V4 w => True -> (okX R4 w p4_20) t1 w) fun p4_20 =>
 postX R4 (fun p4_21 => allX R4 w fun V4 w => True -> kV P (Instr.fieldAt 188 v7 2) w (okX R4 w p4_21)) fun p4_21 =>
 postX R4 (fun p4_22 => allX R4 w fun V4 w => p4_21 (V4 21) w /\ True -> kV P (Instr.loadAt 3 (V4 21)) w (okX R4 w p4_22)) fun p4_22 =>
 postX R4 (fun p4_23 => allX R4 w fun V4 w => True -> kV P (Instr.fieldAt 188 v7 1) w (okX R4 w p4_23)) fun p4_23 =>
 postX R4 (fun p4_24 => allX R4 w fun V4 w => p4_23 (V4 23) w /\ True -> kV P (Instr.loadAt 3 (V4 23)) w (okX R4 w p4_24)) fun p4_24 =>
 postX R4 (fun p4_25 => allX R4 w fun V4 w => p4_20 (V4 20) w /\ p4_22 (V4 22) w /\ p4_24 (V4 24) w /\ True -> kN P (callN (.func (.func 73) #[] #[]) #[(V4 20), (V4 22), (V4 24)]) w (okX R4 w p4_25)) fun p4_25 =>
 allX R4 w fun V4 w => p4_15 (V4 15) w /\ p4_16 (V4 16) w /\ p4_17 (V4 17) w /\ p4_18 (V4 18) w /\ p4_19 (V4 19) w /\ p4_20 (V4 20) w /\ p4_21 (V4 21) w /\ p4_22 (V4 22) w /\ p4_23 (V4 23) w /\ p4_24 (V4 24) w /\ p4_25 (V4 25) w /\ True -> xDist V4 [] ->
 kN P (callN (.func (.func 52) #[] #[]) #[(V4 15), (V4 17), (V4 19), (V4 25)]) w fun v26 w =>
 J2 [v26] w) w) fun s2 w => ∀ _ : Nat -> Value,
 kV P (binV .add 3 (.tmp 11) (.const (.int .i64 1)) (s0.getD 1 undef) (.int .i64 1)) w fun v27 w =>
 R0 [(s2.getD 0 undef), v27] w)
 (joinL (fun J5 =>
 kV P (Instr.fieldAt 119 v2 2) w fun v28 w =>
 kV P (Instr.loadAt 4 v28) w fun v29 w =>
 condK v29
 (kV P (Instr.fieldAt 119 v2 1) w fun v31 w =>
 kV P (Instr.loadAt 3 v31) w fun v32 w =>
 kN P (callN (.func (.func 99) #[] #[]) #[(s0.getD 0 undef), v32]) w fun v33 w =>
 J5 [v33] w)
 (J5 [(s0.getD 0 undef)] w)) fun s5 w => ∀ _ : Nat -> Value,
 kV P (convert 35 2 (s5.getD 0 undef)) w fun v35 w =>
 K v35 w)) [(.int .u64 0), (.int .i64 0)] w
theorem F72_eq (t0 t1 : Value) : funE P ⟨[(5, 1011)], [(3, [5, 11])], [(9, [5]), (6, [5])]⟩ Tryz.f72 [t0, t1] w K = F72 P w K t0 t1 := by kernel_rfl
theorem F72_ok (t0 t1 : Value) (h : F72 Tryz.prog w K t0 t1) : callsK Tryz.prog 72 #[t0, t1] w K := calls_of_eq mixedX Tryz.func72 (F72_eq _ w K t0 t1) h
def F74 (t0 : Value) : Prop :=
 kV P (binV .geq 3 (.tmp 3) (.const (.int .i64 5)) t0 (.int .i64 5)) w fun v4 w =>
 joinK (fun J0 : Value -> World -> Prop => gdK (yb v4) true (fun k => k t0 w) w fun v6 w =>
 gdK (yb v4) true (fun k => kV P (binV .leq 3 (.tmp 6) (.const (.int .i64 10)) v6 (.int .i64 10)) w k) w fun v7 w =>
 kN P (pickN v4 v7 (.bool false)) w fun v8_1 w =>
 J0 v8_1 w) fun v8 w =>
 K v8 w
theorem F74_eq (t0 : Value) : funE P ⟨[], [], []⟩ Tryz.f74 [t0] w K = F74 P w K t0 := by kernel_rfl
theorem F74_ok (t0 : Value) (h : F74 Tryz.prog w K t0) : callsK Tryz.prog 74 #[t0] w K := calls_of_eq mixedX Tryz.func74 (F74_eq _ w K t0) h
def F76 (t0 : Value) : Prop :=
 kV P (Instr.build 199 #[(0, (.int .i64 1)), (1, (.int .i64 2)), (2, (.int .i64 4)), (3, (.int .i64 8))]) w fun v5 w =>
 kV P (Instr.alloc 199 true (.tuple #[])) w fun v3 w =>
 kU P (Instr.storeAt 199 v3 v5) w fun _ w =>
 kV P (Instr.build 200 #[(0, (.int .i64 1)), (1, (.int .i64 2)), (2, (.int .i64 4)), (3, (.int .i64 8)), (4, (.int .i64 1)), (5, (.int .i64 2)), (6, (.int .i64 4))]) w fun v6 w =>
 kV P (Instr.alloc 200 true (.tuple #[])) w fun v4 w =>
 kU P (Instr.storeAt 200 v4 v6) w fun _ w =>
 kN P (callN (.func (.func 110) #[] #[]) #[t0]) w fun v9 w =>
 condK v9
 (kV P (binV .sub 3 (.tmp 10) (.const (.int .i64 11)) t0 (.int .i64 11)) w fun v11 w =>
 kV P (Instr.indexAt 200 v4 v11) w fun v12 w =>
 kV P (Instr.loadAt 3 v12) w fun v13 w =>
 K v13 w)
 (kN P (callN (.func (.func 111) #[] #[]) #[t0]) w fun v16 w =>
 condK v16
 (kV P (binV .sub 3 (.tmp 17) (.const (.int .i64 18)) t0 (.int .i64 18)) w fun v18 w =>
 kV P (Instr.indexAt 199 v3 v18) w fun v19 w =>
 kV P (Instr.loadAt 3 v19) w fun v20 w =>
 K v20 w)
 (kV P (binV .eql 3 (.tmp 22) (.const (.int .i64 43)) t0 (.int .i64 43)) w fun v23 w =>
 joinK (fun J0 : Value -> World -> Prop => gdK (yb v23) false (fun k => k t0 w) w fun v25 w =>
 gdK (yb v23) false (fun k => kV P (binV .eql 3 (.tmp 25) (.const (.int .i64 44)) v25 (.int .i64 44)) w k) w fun v26 w =>
 kN P (pickN v23 (.bool true) v26) w fun v27_1 w =>
 J0 v27_1 w) fun v27 w =>
 condK v27
 (K (.int .i64 16) w)
 (K (.int .i64 0) w)))
theorem F76_eq (t0 : Value) : funE P ⟨[], [], []⟩ Tryz.f76 [t0] w K = F76 P w K t0 := by kernel_rfl
theorem F76_ok (t0 : Value) (h : F76 Tryz.prog w K t0) : callsK Tryz.prog 76 #[t0] w K := calls_of_eq mixedX Tryz.func76 (F76_eq _ w K t0) h
def F78 (t0 t1 : Value) : Prop :=
 kV P (Instr.box 37 t1) w fun v3 w =>
 kV P (Instr.alloc 40 true (.tuple #[])) w fun v4 w =>
 kV P (Instr.alloc 48 true (.tuple #[])) w fun v5 w =>
 joinL (fun J0 =>
 drewK (fun w =>
 relX fun R4 =>
 postX R4 (fun p4_6 => allX R4 w fun V4 w => True -> (okX R4 w p4_6) t0 w) fun p4_6 =>
 postX R4 (fun p4_7 => allX R4 w fun V4 w => True -> (okX R4 w p4_7) t0 w) fun p4_7 =>
 postX R4 (fun p4_8 => allX R4 w fun V4 w => p4_7 (V4 7) w /\ True -> kN P (nilN (V4 7)) w (okX R4 w p4_8)) fun p4_8 =>
 postX R4 (fun p4_9 => allX R4 w fun V4 w => p4_8 (V4 8) w /\ True -> kV P (Instr.fieldAt 88 (V4 8) 0) w (okX R4 w p4_9)) fun p4_9 =>
 postX R4 (fun p4_10 => allX R4 w fun V4 w => p4_9 (V4 9) w /\ True -> kV P (Instr.loadAt 40 (V4 9)) w (okX R4 w p4_10)) fun p4_10 =>
 postX R4 (fun p4_11 => allX R4 w fun V4 w => True -> (okX R4 w p4_11) t0 w) fun p4_11 =>
 postX R4 (fun p4_12 => allX R4 w fun V4 w => p4_11 (V4 11) w /\ True -> kN P (nilN (V4 11)) w (okX R4 w p4_12)) fun p4_12 =>
 postX R4 (fun p4_13 => allX R4 w fun V4 w => p4_12 (V4 12) w /\ True -> kV P (Instr.fieldAt 88 (V4 12) 3) w (okX R4 w p4_13)) fun p4_13 =>
 postX R4 (fun p4_14 => allX R4 w fun V4 w => p4_13 (V4 13) w /\ True -> kV P (Instr.fieldAt 46 (V4 13) 1) w (okX R4 w p4_14)) fun p4_14 =>
 postX R4 (fun p4_15 => allX R4 w fun V4 w => p4_14 (V4 14) w /\ True -> kV P (Instr.loadAt 3 (V4 14)) w (okX R4 w p4_15)) fun p4_15 =>
 postX R4 (fun p4_16 => allX R4 w fun V4 w => True -> kV P (Instr.loadAt 37 v3) w (okX R4 w p4_16)) fun p4_16 =>
 postX R4 (fun p4_17 => allX R4 w fun V4 w => p4_10 (V4 10) w /\ p4_15 (V4 15) w /\ p4_16 (V4 16) w /\ True -> kN P (callN (.func (.func 114) #[] #[]) #[(V4 10), (V4 15), (V4 16)]) w (okX R4 w p4_17)) fun p4_17 =>
 allX R4 w fun V4 w => p4_6 (V4 6) w /\ p4_7 (V4 7) w /\ p4_8 (V4 8) w /\ p4_9 (V4 9) w /\ p4_10 (V4 10) w /\ p4_11 (V4 11) w /\ p4_12 (V4 12) w /\ p4_13 (V4 13) w /\ p4_14 (V4 14) w /\ p4_15 (V4 15) w /\ p4_16 (V4 16) w /\ p4_17 (V4 17) w /\ True -> xDist V4 [] ->
 kN P (nilN (V4 6)) w fun v18 w =>
 kV P (Instr.fieldAt 88 v18 0) w fun v19 w =>
 kU P (Instr.storeAt 40 v19 (V4 17)) w fun _ w =>
 J0 [] w) w) fun s0 w => ∀ _ : Nat -> Value,
 kN P (callN (.func (.func 109) #[] #[]) #[t0]) w fun v21 w =>
 kV P (Instr.extract v21 0) w fun v22 w =>
 kV P (Instr.extract v21 1) w fun v23 w =>
 kU P (Instr.storeAt 40 v4 v22) w fun _ w =>
 kU P (Instr.storeAt 48 v5 v23) w fun _ w =>
 retV P 40 v4 w fun r2 =>
 retV P 48 v5 w fun r3 =>
 K (.tuple #[r2, r3]) w
theorem F78_eq (t0 t1 : Value) : funE P ⟨[(1, 1012)], [], [(2, [])]⟩ Tryz.f78 [t0, t1] w K = F78 P w K t0 t1 := by kernel_rfl
theorem F78_ok (t0 t1 : Value) (h : F78 Tryz.prog w K t0 t1) : callsK Tryz.prog 78 #[t0, t1] w K := calls_of_eq mixedX Tryz.func78 (F78_eq _ w K t0 t1) h
def F81 (t0 t1 : Value) : Prop :=
 kV P (Instr.alloc 40 true (.tuple #[])) w fun v4 w =>
 kV P (Instr.alloc 48 true (.tuple #[])) w fun v5 w =>
 kN P (callN (.func (.func 11) #[] #[]) #[t1]) w fun v8 w =>
 kN P (callN (.func (.func 78) #[] #[]) #[t0, v8]) w fun v9 w =>
 kV P (Instr.extract v9 0) w fun v10 w =>
 kV P (Instr.extract v9 1) w fun v11 w =>
 kU P (Instr.storeAt 40 v4 v10) w fun _ w =>
 kU P (Instr.storeAt 48 v5 v11) w fun _ w =>
 retV P 40 v4 w fun r0 =>
 retV P 48 v5 w fun r1 =>
 K (.tuple #[r0, r1]) w
theorem F81_eq (t0 t1 : Value) : funE P ⟨[], [], []⟩ Tryz.f81 [t0, t1] w K = F81 P w K t0 t1 := by kernel_rfl
theorem F81_ok (t0 t1 : Value) (h : F81 Tryz.prog w K t0 t1) : callsK Tryz.prog 81 #[t0, t1] w K := calls_of_eq mixedX Tryz.func81 (F81_eq _ w K t0 t1) h
def F82 (t0 : Value) : Prop :=
 kV P (binV .geq 3 (.tmp 3) (.const (.int .i64 22)) t0 (.int .i64 22)) w fun v4 w =>
 joinK (fun J0 : Value -> World -> Prop => gdK (yb v4) true (fun k => k t0 w) w fun v6 w =>
 gdK (yb v4) true (fun k => kV P (binV .leq 3 (.tmp 6) (.const (.int .i64 30)) v6 (.int .i64 30)) w k) w fun v7 w =>
 kN P (pickN v4 v7 (.bool false)) w fun v8_1 w =>
 J0 v8_1 w) fun v8 w =>
 K v8 w
theorem F82_eq (t0 : Value) : funE P ⟨[], [], []⟩ Tryz.f82 [t0] w K = F82 P w K t0 := by kernel_rfl
theorem F82_ok (t0 : Value) (h : F82 Tryz.prog w K t0) : callsK Tryz.prog 82 #[t0] w K := calls_of_eq mixedX Tryz.func82 (F82_eq _ w K t0) h
def F83 (t0 t1 t2 : Value) : Prop :=
 kV P (binV .rem 35 (.tmp 9) (.const (.int .u64 64)) t2 (.int .u64 64)) w fun v10 w =>
 joinL (fun J0 =>
 kV P (binV .eql 3 (.tmp 11) (.const (.int .i64 31)) t0 (.int .i64 31)) w fun v13 w =>
 condK v13
 (J0 [v13] w)
 (kV P (binV .eql 3 (.tmp 11) (.const (.int .i64 22)) t0 (.int .i64 22)) w fun v14 w =>
 J0 [v14] w)) fun s0 w => ∀ _ : Nat -> Value,
 condK (s0.getD 0 undef)
 (kV P (binV .add 35 (.tmp 15) (.tmp 16) t1 t2) w fun v17 w =>
 K (.tuple #[v17, (.bool true)]) w)
 (kV P (binV .eql 3 (.tmp 11) (.const (.int .i64 32)) t0 (.int .i64 32)) w fun v19 w =>
 condK v19
 (kV P (binV .sub 35 (.tmp 20) (.tmp 21) t1 t2) w fun v22 w =>
 K (.tuple #[v22, (.bool true)]) w)
 (joinL (fun J2 =>
 kV P (binV .eql 3 (.tmp 11) (.const (.int .i64 40)) t0 (.int .i64 40)) w fun v24 w =>
 condK v24
 (J2 [v24] w)
 (kV P (binV .eql 3 (.tmp 11) (.const (.int .i64 27)) t0 (.int .i64 27)) w fun v25 w =>
 J2 [v25] w)) fun s2 w => ∀ _ : Nat -> Value,
 condK (s2.getD 0 undef)
 (kV P (binV .and 35 (.tmp 26) (.tmp 27) t1 t2) w fun v28 w =>
 K (.tuple #[v28, (.bool true)]) w)
 (joinL (fun J4 =>
 kV P (binV .eql 3 (.tmp 11) (.const (.int .i64 39)) t0 (.int .i64 39)) w fun v30 w =>
 condK v30
 (J4 [v30] w)
 (kV P (binV .eql 3 (.tmp 11) (.const (.int .i64 26)) t0 (.int .i64 26)) w fun v31 w =>
 J4 [v31] w)) fun s4 w => ∀ _ : Nat -> Value,
 condK (s4.getD 0 undef)
 (kV P (binV .or 35 (.tmp 32) (.tmp 33) t1 t2) w fun v34 w =>
 K (.tuple #[v34, (.bool true)]) w)
 (joinL (fun J6 =>
 kV P (binV .eql 3 (.tmp 11) (.const (.int .i64 36)) t0 (.int .i64 36)) w fun v36 w =>
 condK v36
 (J6 [v36] w)
 (kV P (binV .eql 3 (.tmp 11) (.const (.int .i64 25)) t0 (.int .i64 25)) w fun v37 w =>
 J6 [v37] w)) fun s6 w => ∀ _ : Nat -> Value,
 condK (s6.getD 0 undef)
 (kV P (binV .xor 35 (.tmp 38) (.tmp 39) t1 t2) w fun v40 w =>
 K (.tuple #[v40, (.bool true)]) w)
 (joinL (fun J8 =>
 kV P (binV .eql 3 (.tmp 11) (.const (.int .i64 33)) t0 (.int .i64 33)) w fun v42 w =>
 condK v42
 (J8 [v42] w)
 (kV P (binV .eql 3 (.tmp 11) (.const (.int .i64 28)) t0 (.int .i64 28)) w fun v43 w =>
 J8 [v43] w)) fun s8 w => ∀ _ : Nat -> Value,
 condK (s8.getD 0 undef)
 (kV P (binV .shl 35 (.tmp 44) (.tmp 45) t1 v10) w fun v46 w =>
 K (.tuple #[v46, (.bool true)]) w)
 (joinL (fun J10 =>
 kV P (binV .eql 3 (.tmp 11) (.const (.int .i64 37)) t0 (.int .i64 37)) w fun v48 w =>
 condK v48
 (J10 [v48] w)
 (kV P (binV .eql 3 (.tmp 11) (.const (.int .i64 29)) t0 (.int .i64 29)) w fun v49 w =>
 J10 [v49] w)) fun s10 w => ∀ _ : Nat -> Value,
 condK (s10.getD 0 undef)
 (kV P (binV .shr 35 (.tmp 50) (.tmp 51) t1 v10) w fun v52 w =>
 K (.tuple #[v52, (.bool true)]) w)
 (joinL (fun J12 =>
 kV P (binV .eql 3 (.tmp 11) (.const (.int .i64 38)) t0 (.int .i64 38)) w fun v54 w =>
 condK v54
 (J12 [v54] w)
 (kV P (binV .eql 3 (.tmp 11) (.const (.int .i64 30)) t0 (.int .i64 30)) w fun v55 w =>
 J12 [v55] w)) fun s12 w => ∀ _ : Nat -> Value,
 condK (s12.getD 0 undef)
 (kV P (convert 35 2 t1) w fun v57 w =>
 kV P (binV .shr 2 (.tmp 57) (.tmp 58) v57 v10) w fun v59 w =>
 kV P (convert 2 35 v59) w fun v60 w =>
 K (.tuple #[v60, (.bool true)]) w)
 (joinL (fun J14 =>
 kV P (binV .eql 3 (.tmp 11) (.const (.int .i64 34)) t0 (.int .i64 34)) w fun v62 w =>
 condK v62
 (J14 [v62] w)
 (kV P (binV .eql 3 (.tmp 11) (.const (.int .i64 23)) t0 (.int .i64 23)) w fun v63 w =>
 J14 [v63] w)) fun s14 w => ∀ _ : Nat -> Value,
 condK (s14.getD 0 undef)
 (kV P (convert 35 2 t1) w fun v65 w =>
 kV P (convert 35 2 t2) w fun v67 w =>
 kV P (binV .lss 2 (.tmp 65) (.tmp 67) v65 v67) w fun v68 w =>
 kN P (callN (.func (.func 119) #[] #[]) #[v68]) w fun v69 w =>
 K (.tuple #[v69, (.bool true)]) w)
 (joinL (fun J16 =>
 kV P (binV .eql 3 (.tmp 11) (.const (.int .i64 35)) t0 (.int .i64 35)) w fun v71 w =>
 condK v71
 (J16 [v71] w)
 (kV P (binV .eql 3 (.tmp 11) (.const (.int .i64 24)) t0 (.int .i64 24)) w fun v72 w =>
 J16 [v72] w)) fun s16 w => ∀ _ : Nat -> Value,
 condK (s16.getD 0 undef)
 (kV P (binV .lss 35 (.tmp 73) (.tmp 74) t1 t2) w fun v75 w =>
 kN P (callN (.func (.func 119) #[] #[]) #[v75]) w fun v76 w =>
 K (.tuple #[v76, (.bool true)]) w)
 (K (.tuple #[(.int .u64 0), (.bool false)]) w))))))))))
theorem F83_eq (t0 t1 t2 : Value) : funE P ⟨[], [], [(5, [12]), (10, [23]), (13, [29]), (16, [35]), (19, [41]), (22, [47]), (25, [53]), (28, [61]), (31, [70])]⟩ Tryz.f83 [t0, t1, t2] w K = F83 P w K t0 t1 t2 := by kernel_rfl
theorem F83_ok (t0 t1 t2 : Value) (h : F83 Tryz.prog w K t0 t1 t2) : callsK Tryz.prog 83 #[t0, t1, t2] w K := calls_of_eq mixedX Tryz.func83 (F83_eq _ w K t0 t1 t2) h
def F98 (t0 t1 t2 t3 t4 : Value) : Prop :=
 drewK (fun w =>
 relX fun R0 =>
 postX R0 (fun p0_8 => allX R0 w fun V0 w => True -> kV P (Instr.loadAt 35 t3) w (okX R0 w p0_8)) fun p0_8 =>
 postX R0 (fun p0_9 => allX R0 w fun V0 w => True -> (okX R0 w p0_9) t0 w) fun p0_9 =>
 postX R0 (fun p0_10 => allX R0 w fun V0 w => True -> (okX R0 w p0_10) t1 w) fun p0_10 =>
 postX R0 (fun p0_11 => allX R0 w fun V0 w => True -> (okX R0 w p0_11) t2 w) fun p0_11 =>
 postX R0 (fun p0_12 => allX R0 w fun V0 w => p0_8 (V0 8) w /\ p0_9 (V0 9) w /\ p0_10 (V0 10) w /\ p0_11 (V0 11) w /\ True -> kN P (callN (.func (.func 52) #[] #[]) #[(V0 8), (V0 9), (V0 10), (V0 11)]) w (okX R0 w p0_12)) fun p0_12 =>
 postX R0 (fun p0_13 => allX R0 w fun V0 w => True -> kV P (Instr.loadAt 35 t4) w (okX R0 w p0_13)) fun p0_13 =>
 postX R0 (fun p0_14 => allX R0 w fun V0 w => True -> (okX R0 w p0_14) t0 w) fun p0_14 =>
 postX R0 (fun p0_15 => allX R0 w fun V0 w => True -> (okX R0 w p0_15) t1 w) fun p0_15 =>
 allX R0 w fun V0 w => p0_8 (V0 8) w /\ p0_9 (V0 9) w /\ p0_10 (V0 10) w /\ p0_11 (V0 11) w /\ p0_12 (V0 12) w /\ p0_13 (V0 13) w /\ p0_14 (V0 14) w /\ p0_15 (V0 15) w /\ True -> xDist V0 [] ->
 kN P (callN (.func (.func 52) #[] #[]) #[(V0 13), (V0 14), (V0 15), (.int .u64 18446744073709551615)]) w fun v16 w =>
 kU P (Instr.storeAt 35 t3 (V0 12)) w fun _ w =>
 kU P (Instr.storeAt 35 t4 v16) w fun _ w =>
 K (.tuple #[]) w) w
theorem F98_eq (t0 t1 t2 t3 t4 : Value) : funE P ⟨[(0, 1008)], [], []⟩ Tryz.f98 [t0, t1, t2, t3, t4] w K = F98 P w K t0 t1 t2 t3 t4 := by kernel_rfl
theorem F98_ok (t0 t1 t2 t3 t4 : Value) (h : F98 Tryz.prog w K t0 t1 t2 t3 t4) : callsK Tryz.prog 98 #[t0, t1, t2, t3, t4] w K := calls_of_eq mixedX Tryz.func98 (F98_eq _ w K t0 t1 t2 t3 t4) h
def F101 (t0 t1 : Value) : Prop :=
 kV P (Instr.box 37 t0) w fun v2 w =>
 kV P (Instr.alloc 37 true (.tuple #[])) w fun v4 w =>
 kV P (Instr.loadAt 37 v2) w fun v8 w =>
 kN P (callN (.func (.func 66) #[] #[]) #[v8]) w fun v9 w =>
 kV P (Instr.alloc 162 true (.tuple #[])) w fun v5 w =>
 kU P (Instr.storeAt 162 v5 v9) w fun _ w =>
 kV P (Instr.fieldAt 37 v2 2) w fun v11 w =>
 kU P (Instr.storeAt 35 v11 t1) w fun _ w =>
 kV P (Instr.loadAt 37 v2) w fun v13 w =>
 kN P (callN (.func (.func 105) #[] #[]) #[v13]) w fun v14 w =>
 kV P (Instr.extract v14 0) w fun v15 w =>
 kV P (Instr.extract v14 1) w fun v16 w =>
 kV P (Instr.alloc 160 true (.tuple #[])) w fun v6 w =>
 kU P (Instr.storeAt 160 v6 v15) w fun _ w =>
 kV P (Instr.loadAt 162 v5) w fun v17 w =>
 kN P (callN (.func (.func 67) #[] #[]) #[v17]) w fun v18 w =>
 joinK (fun J0 : Value -> World -> Prop => gdK (yb v18) true (fun k => k v16 w) w fun v20 w =>
 kN P (pickN v18 v20 (.bool false)) w fun v21_1 w =>
 J0 v21_1 w) fun v21 w =>
 joinK (fun J1 : Value -> World -> Prop => gdK (yb v21) true (fun k => kV P (Instr.fieldAt 160 v6 0) w k) w fun v23 w =>
 gdK (yb v21) true (fun k => kV P (Instr.loadAt 158 v23) w k) w fun v24 w =>
 gdK (yb v21) true (fun k => kV P (Instr.fieldAt 162 v5 1) w k) w fun v25 w =>
 gdK (yb v21) true (fun k => kV P (Instr.fieldAt 160 v25 0) w k) w fun v26 w =>
 gdK (yb v21) true (fun k => kV P (Instr.loadAt 158 v26) w k) w fun v27 w =>
 gdK (yb v21) true (fun k => kV P (binV .eql 158 (.tmp 24) (.tmp 27) v24 v27) w k) w fun v28 w =>
 kN P (pickN v21 v28 (.bool false)) w fun v29_1 w =>
 J1 v29_1 w) fun v29 w =>
 kV P (Instr.fieldAt 37 v2 0) w fun v30 w =>
 kU P (Instr.storeAt 4 v30 v29) w fun _ w =>
 kV P (Instr.loadAt 37 v2) w fun v31 w =>
 kU P (Instr.storeAt 37 v4 v31) w fun _ w =>
 retV P 37 v4 w fun r2 =>
 K r2 w
theorem F101_eq (t0 t1 : Value) : funE P ⟨[], [], []⟩ Tryz.f101 [t0, t1] w K = F101 P w K t0 t1 := by kernel_rfl
theorem F101_ok (t0 t1 : Value) (h : F101 Tryz.prog w K t0 t1) : callsK Tryz.prog 101 #[t0, t1] w K := calls_of_eq mixedX Tryz.func101 (F101_eq _ w K t0 t1) h
def F103 (t0 t1 : Value) : Prop :=
 kV P (Instr.box 32 t0) w fun v2 w =>
 kV P (Instr.alloc 32 true (.tuple #[])) w fun v4 w =>
 loopT (fun R0 s0 w => ∀ _ : Nat -> Value,
 kV P (Instr.fieldAt 32 v2 3) w fun v8 w =>
 kV P (Instr.loadAt 29 v8) w fun v9 w =>
 kV P (Builtin.len_ #[29] 3 #[v9]) w fun v10 w =>
 kV P (binV .lss 3 (.tmp 7) (.tmp 10) (s0.getD 1 undef) v10) w fun v11 w =>
 condK v11
 (joinL (fun J2 =>
 kV P (Instr.fieldAt 32 v2 3) w fun v14 w =>
 kV P (Instr.loadAt 29 v14) w fun v15 w =>
 kV P (Instr.indexAt 29 v15 (s0.getD 1 undef)) w fun v17 w =>
 kV P (Instr.loadAt 35 v17) w fun v18 w =>
 kV P (binV .neq 35 (.tmp 18) (.tmp 19) v18 t1) w fun v20 w =>
 condK v20
 (kV P (Instr.fieldAt 32 v2 3) w fun v22 w =>
 kV P (Instr.loadAt 29 v22) w fun v23 w =>
 kV P (Instr.indexAt 29 v23 (s0.getD 1 undef)) w fun v25 w =>
 kV P (Instr.loadAt 35 v25) w fun v26 w =>
 kV P (Instr.buildSlice 29 1 #[(0, v26)]) w fun v27 w =>
 kV P (Builtin.append_ #[29, 29] 29 #[(s0.getD 0 undef), v27]) w fun v28 w =>
 J2 [v28] w)
 (J2 [(s0.getD 0 undef)] w)) fun s2 w => ∀ _ : Nat -> Value,
 kV P (binV .add 3 (.tmp 12) (.const (.int .i64 1)) (s0.getD 1 undef) (.int .i64 1)) w fun v13 w =>
 R0 [(s2.getD 0 undef), v13] w)
 (kV P (Instr.fieldAt 32 v2 3) w fun v30 w =>
 kU P (Instr.storeAt 29 v30 (s0.getD 0 undef)) w fun _ w =>
 kV P (Instr.loadAt 32 v2) w fun v31 w =>
 kU P (Instr.storeAt 32 v4 v31) w fun _ w =>
 retV P 32 v4 w fun r4 =>
 K r4 w)) [(.slice none 0 0), (.int .i64 0)] w
theorem F103_eq (t0 t1 : Value) : funE P ⟨[], [(3, [5, 6])], [(4, [5])]⟩ Tryz.f103 [t0, t1] w K = F103 P w K t0 t1 := by kernel_rfl
theorem F103_ok (t0 t1 : Value) (h : F103 Tryz.prog w K t0 t1) : callsK Tryz.prog 103 #[t0, t1] w K := calls_of_eq mixedX Tryz.func103 (F103_eq _ w K t0 t1) h
def F106 (t0 : Value) : Prop :=
 kV P (Instr.box 37 t0) w fun v1 w =>
 kV P (Instr.loadAt 37 v1) w fun v6 w =>
 kN P (callN (.func (.func 105) #[] #[]) #[v6]) w fun v7 w =>
 kV P (Instr.extract v7 0) w fun v8 w =>
 kV P (Instr.extract v7 1) w fun v9 w =>
 kV P (Instr.alloc 160 true (.tuple #[])) w fun v3 w =>
 kU P (Instr.storeAt 160 v3 v8) w fun _ w =>
 drewK (fun w =>
 relX fun R0 =>
 postX R0 (fun p0_10 => allX R0 w fun V0 w => True -> (okX R0 w p0_10) v9 w) fun p0_10 =>
 postX R0 (fun p0_11 => allX R0 w fun V0 w => p0_10 (V0 10) w /\ True -> (okX R0 w p0_11) (V0 10) w) fun p0_11 =>
 postX R0 (fun p0_12 => allX R0 w fun V0 w => p0_11 (V0 11) w /\ True -> gdK (yb (V0 11)) true (fun k => kV P (Instr.fieldAt 37 v1 1) w k) w (okX R0 w p0_12)) fun p0_12 =>
 postX R0 (fun p0_13 => allX R0 w fun V0 w => p0_11 (V0 11) w /\ p0_12 (V0 12) w /\ True -> gdK (yb (V0 11)) true (fun k => kV P (Instr.loadAt 35 (V0 12)) w k) w (okX R0 w p0_13)) fun p0_13 =>
 postX R0 (fun p0_14 => allX R0 w fun V0 w => p0_11 (V0 11) w /\ p0_13 (V0 13) w /\ True -> gdK (yb (V0 11)) true (fun k => kN P (callN (.func (.func 137) #[] #[]) #[(V0 13)]) w k) w (okX R0 w p0_14)) fun p0_14 =>
 postX R0 (fun p0_15 => allX R0 w fun V0 w => p0_11 (V0 11) w /\ True -> gdK (yb (V0 11)) true (fun k => kV P (Instr.loadAt 160 v3) w k) w (okX R0 w p0_15)) fun p0_15 =>
 postX R0 (fun p0_16 => allX R0 w fun V0 w => p0_11 (V0 11) w /\ p0_14 (V0 14) w /\ p0_15 (V0 15) w /\ True -> gdK (yb (V0 11)) true (fun k => kN P (callN (.func (.func 138) #[] #[]) #[(V0 14), (V0 15)]) w k) w (okX R0 w p0_16)) fun p0_16 =>
 postX R0 (fun p0_17 => allX R0 w fun V0 w => p0_11 (V0 11) w /\ True -> gdK (yb (V0 11)) true (fun k => kV P (Instr.fieldAt 37 v1 1) w k) w (okX R0 w p0_17)) fun p0_17 =>
 postX R0 (fun p0_18 => allX R0 w fun V0 w => p0_11 (V0 11) w /\ p0_17 (V0 17) w /\ True -> gdK (yb (V0 11)) true (fun k => kV P (Instr.loadAt 35 (V0 17)) w k) w (okX R0 w p0_18)) fun p0_18 =>
 postX R0 (fun p0_19 => allX R0 w fun V0 w => p0_11 (V0 11) w /\ p0_16 (V0 16) w /\ p0_18 (V0 18) w /\ True -> gdK (yb (V0 11)) true (fun k => kV P (binV .eql 35 (.tmp 16) (.tmp 18) (V0 16) (V0 18)) w k) w (okX R0 w p0_19)) fun p0_19 =>
 postX R0 (fun p0_20 => allX R0 w fun V0 w => p0_11 (V0 11) w /\ p0_19 (V0 19) w /\ True -> kN P (pickN (V0 11) (V0 19) (.bool false)) w (okX R0 w p0_20)) fun p0_20 =>
 allX R0 w fun V0 w => p0_10 (V0 10) w /\ p0_11 (V0 11) w /\ p0_12 (V0 12) w /\ p0_13 (V0 13) w /\ p0_14 (V0 14) w /\ p0_15 (V0 15) w /\ p0_16 (V0 16) w /\ p0_17 (V0 17) w /\ p0_18 (V0 18) w /\ p0_19 (V0 19) w /\ p0_20 (V0 20) w /\ True -> xDist V0 [] ->
 K (V0 20) w) w
theorem F106_eq (t0 : Value) : funE P ⟨[(2, 1011)], [], []⟩ Tryz.f106 [t0] w K = F106 P w K t0 := by kernel_rfl
theorem F106_ok (t0 : Value) (h : F106 Tryz.prog w K t0) : callsK Tryz.prog 106 #[t0] w K := calls_of_eq mixedX Tryz.func106 (F106_eq _ w K t0) h
def F107 (t0 t1 : Value) : Prop :=
 kN P (callN (.func (.func 139) #[] #[]) #[t0, t1, (.int .u64 0)]) w fun v11 w =>
 kV P (Instr.extract v11 0) w fun v12 w =>
 kV P (Instr.extract v11 1) w fun v13 w =>
 kV P (binV .neq 35 (.tmp 15) (.const (.int .u64 0)) v13 (.int .u64 0)) w fun v16 w =>
 K (.tuple #[v12, v16]) w
theorem F107_eq (t0 t1 : Value) : funE P ⟨[], [], []⟩ Tryz.f107 [t0, t1] w K = F107 P w K t0 t1 := by kernel_rfl
theorem F107_ok (t0 t1 : Value) (h : F107 Tryz.prog w K t0 t1) : callsK Tryz.prog 107 #[t0, t1] w K := calls_of_eq mixedX Tryz.func107 (F107_eq _ w K t0 t1) h
def F109 (t0 : Value) : Prop :=
 kV P (Instr.alloc 40 true (.tuple #[])) w fun v2 w =>
 kV P (Instr.alloc 48 true (.tuple #[])) w fun v3 w =>
 drewK (fun w =>
 relX fun R0 =>
 postX R0 (fun p0_4 => allX R0 w fun V0 w => True -> (okX R0 w p0_4) t0 w) fun p0_4 =>
 postX R0 (fun p0_5 => allX R0 w fun V0 w => p0_4 (V0 4) w /\ True -> kN P (nilN (V0 4)) w (okX R0 w p0_5)) fun p0_5 =>
 postX R0 (fun p0_6 => allX R0 w fun V0 w => p0_5 (V0 5) w /\ True -> kV P (Instr.fieldAt 88 (V0 5) 0) w (okX R0 w p0_6)) fun p0_6 =>
 postX R0 (fun p0_7 => allX R0 w fun V0 w => p0_6 (V0 6) w /\ True -> kV P (Instr.loadAt 40 (V0 6)) w (okX R0 w p0_7)) fun p0_7 =>
 postX R0 (fun p0_8 => allX R0 w fun V0 w => True -> (okX R0 w p0_8) t0 w) fun p0_8 =>
 postX R0 (fun p0_9 => allX R0 w fun V0 w => p0_8 (V0 8) w /\ True -> kN P (nilN (V0 8)) w (okX R0 w p0_9)) fun p0_9 =>
 postX R0 (fun p0_10 => allX R0 w fun V0 w => p0_9 (V0 9) w /\ True -> kV P (Instr.fieldAt 88 (V0 9) 3) w (okX R0 w p0_10)) fun p0_10 =>
 postX R0 (fun p0_11 => allX R0 w fun V0 w => p0_10 (V0 10) w /\ True -> kV P (Instr.loadAt 46 (V0 10)) w (okX R0 w p0_11)) fun p0_11 =>
 postX R0 (fun p0_12 => allX R0 w fun V0 w => p0_11 (V0 11) w /\ True -> kV P (Instr.build 48 #[(3, (V0 11))]) w (okX R0 w p0_12)) fun p0_12 =>
 postX R0 (fun p0_n9 => allX R0 w fun V0 w => p0_4 (V0 4) w /\ p0_5 (V0 5) w /\ p0_6 (V0 6) w /\ p0_7 (V0 7) w /\ True -> kU P (Instr.storeAt 40 v2 (V0 7)) w (okX R0 w p0_n9)) fun p0_n9 =>
 allX R0 w fun V0 w => p0_4 (V0 4) w /\ p0_5 (V0 5) w /\ p0_6 (V0 6) w /\ p0_7 (V0 7) w /\ p0_8 (V0 8) w /\ p0_9 (V0 9) w /\ p0_10 (V0 10) w /\ p0_11 (V0 11) w /\ p0_12 (V0 12) w /\ (∃ u, p0_n9 u w) /\ True -> xDist V0 [] ->
 kU P (Instr.storeAt 48 v3 (V0 12)) w fun _ w =>
 retV P 40 v2 w fun r1 =>
 retV P 48 v3 w fun r2 =>
 K (.tuple #[r1, r2]) w) w
theorem F109_eq (t0 : Value) : funE P ⟨[(1, 1010)], [], []⟩ Tryz.f109 [t0] w K = F109 P w K t0 := by kernel_rfl
theorem F109_ok (t0 : Value) (h : F109 Tryz.prog w K t0) : callsK Tryz.prog 109 #[t0] w K := calls_of_eq mixedX Tryz.func109 (F109_eq _ w K t0) h
def F110 (t0 : Value) : Prop :=
 kV P (binV .geq 3 (.tmp 3) (.const (.int .i64 11)) t0 (.int .i64 11)) w fun v4 w =>
 joinK (fun J0 : Value -> World -> Prop => gdK (yb v4) true (fun k => k t0 w) w fun v6 w =>
 gdK (yb v4) true (fun k => kV P (binV .leq 3 (.tmp 6) (.const (.int .i64 17)) v6 (.int .i64 17)) w k) w fun v7 w =>
 kN P (pickN v4 v7 (.bool false)) w fun v8_1 w =>
 J0 v8_1 w) fun v8 w =>
 K v8 w
theorem F110_eq (t0 : Value) : funE P ⟨[], [], []⟩ Tryz.f110 [t0] w K = F110 P w K t0 := by kernel_rfl
theorem F110_ok (t0 : Value) (h : F110 Tryz.prog w K t0) : callsK Tryz.prog 110 #[t0] w K := calls_of_eq mixedX Tryz.func110 (F110_eq _ w K t0) h
def F111 (t0 : Value) : Prop :=
 kV P (binV .geq 3 (.tmp 3) (.const (.int .i64 18)) t0 (.int .i64 18)) w fun v4 w =>
 joinK (fun J0 : Value -> World -> Prop => gdK (yb v4) true (fun k => k t0 w) w fun v6 w =>
 gdK (yb v4) true (fun k => kV P (binV .leq 3 (.tmp 6) (.const (.int .i64 21)) v6 (.int .i64 21)) w k) w fun v7 w =>
 kN P (pickN v4 v7 (.bool false)) w fun v8_1 w =>
 J0 v8_1 w) fun v8 w =>
 K v8 w
theorem F111_eq (t0 : Value) : funE P ⟨[], [], []⟩ Tryz.f111 [t0] w K = F111 P w K t0 := by kernel_rfl
theorem F111_ok (t0 : Value) (h : F111 Tryz.prog w K t0) : callsK Tryz.prog 111 #[t0] w K := calls_of_eq mixedX Tryz.func111 (F111_eq _ w K t0) h
def F113 (t0 : Value) : Prop :=
 kV P (Instr.box 37 t0) w fun v1 w =>
 kV P (Instr.alloc 37 true (.tuple #[])) w fun v2 w =>
 kV P (Instr.fieldAt 37 v1 1) w fun v3 w =>
 kV P (Instr.loadAt 35 v3) w fun v4 w =>
 kV P (Instr.fieldAt 37 v1 2) w fun v5 w =>
 kV P (Instr.loadAt 35 v5) w fun v6 w =>
 kV P (Instr.build 37 #[(1, v4), (2, v6)]) w fun v7 w =>
 kU P (Instr.storeAt 37 v2 v7) w fun _ w =>
 retV P 37 v2 w fun r0 =>
 K r0 w
theorem F113_eq (t0 : Value) : funE P ⟨[], [], []⟩ Tryz.f113 [t0] w K = F113 P w K t0 := by kernel_rfl
theorem F113_ok (t0 : Value) (h : F113 Tryz.prog w K t0) : callsK Tryz.prog 113 #[t0] w K := calls_of_eq mixedX Tryz.func113 (F113_eq _ w K t0) h
def F114 (t0 t1 t2 : Value) : Prop :=
 kV P (Instr.box 40 t0) w fun v3 w =>
 kV P (Instr.box 37 t2) w fun v5 w =>
 kV P (Instr.alloc 40 true (.tuple #[])) w fun v6 w =>
 joinL (fun J0 =>
 kN P (callN (.func (.func 29) #[] #[]) #[t1]) w fun v8 w =>
 condK v8
 (kV P (Instr.loadAt 37 v5) w fun v10 w =>
 kV P (Instr.fieldAt 40 v3 0) w fun v11 w =>
 kV P (Instr.indexAt 38 v11 t1) w fun v12 w =>
 kU P (Instr.storeAt 37 v12 v10) w fun _ w =>
 J0 [] w)
 (J0 [] w)) fun s0 w => ∀ _ : Nat -> Value,
 kV P (Instr.loadAt 40 v3) w fun v13 w =>
 kU P (Instr.storeAt 40 v6 v13) w fun _ w =>
 retV P 40 v6 w fun r2 =>
 K r2 w
theorem F114_eq (t0 t1 t2 : Value) : funE P ⟨[], [], [(3, [])]⟩ Tryz.f114 [t0, t1, t2] w K = F114 P w K t0 t1 t2 := by kernel_rfl
theorem F114_ok (t0 t1 t2 : Value) (h : F114 Tryz.prog w K t0 t1 t2) : callsK Tryz.prog 114 #[t0, t1, t2] w K := calls_of_eq mixedX Tryz.func114 (F114_eq _ w K t0 t1 t2) h
def F138 (t0 t1 : Value) : Prop :=
 kV P (Instr.box 226 t0) w fun v2 w =>
 kV P (Instr.box 160 t1) w fun v3 w =>
 drewK (fun w =>
 relX fun R0 =>
 postX R0 (fun p0_5 => allX R0 w fun V0 w => True -> kV P (Instr.loadAt 226 v2) w (okX R0 w p0_5)) fun p0_5 =>
 postX R0 (fun p0_6 => allX R0 w fun V0 w => p0_5 (V0 5) w /\ True -> kN P (callN (.func (.func 163) #[] #[]) #[(V0 5)]) w (okX R0 w p0_6)) fun p0_6 =>
 postX R0 (fun p0_7 => allX R0 w fun V0 w => p0_6 (V0 6) w /\ True -> kV P (Instr.build 256 #[(1, (.int .i64 32)), (2, (V0 6))]) w (okX R0 w p0_7)) fun p0_7 =>
 postX R0 (fun p0_8 => allX R0 w fun V0 w => True -> kV P (Instr.fieldAt 160 v3 1) w (okX R0 w p0_8)) fun p0_8 =>
 postX R0 (fun p0_9 => allX R0 w fun V0 w => p0_8 (V0 8) w /\ True -> kV P (Instr.loadAt 35 (V0 8)) w (okX R0 w p0_9)) fun p0_9 =>
 postX R0 (fun p0_10 => allX R0 w fun V0 w => p0_9 (V0 9) w /\ True -> kV P (Instr.build 256 #[(0, (.int .i64 32)), (1, (.int .i64 9)), (2, (V0 9))]) w (okX R0 w p0_10)) fun p0_10 =>
 postX R0 (fun p0_11 => allX R0 w fun V0 w => True -> kV P (Instr.fieldAt 160 v3 2) w (okX R0 w p0_11)) fun p0_11 =>
 postX R0 (fun p0_12 => allX R0 w fun V0 w => p0_11 (V0 11) w /\ True -> kV P (Instr.loadAt 35 (V0 11)) w (okX R0 w p0_12)) fun p0_12 =>
 postX R0 (fun p0_13 => allX R0 w fun V0 w => p0_12 (V0 12) w /\ True -> kV P (Instr.build 256 #[(0, (.int .i64 48)), (1, (.int .i64 12)), (2, (V0 12))]) w (okX R0 w p0_13)) fun p0_13 =>
 allX R0 w fun V0 w => p0_5 (V0 5) w /\ p0_6 (V0 6) w /\ p0_7 (V0 7) w /\ p0_8 (V0 8) w /\ p0_9 (V0 9) w /\ p0_10 (V0 10) w /\ p0_11 (V0 11) w /\ p0_12 (V0 12) w /\ p0_13 (V0 13) w /\ True -> xDist V0 [] ->
 kV P (Instr.buildSlice 273 3 #[(0, (V0 7)), (1, (V0 10)), (2, (V0 13))]) w fun v14 w =>
 kN P (callN (.func (.func 166) #[] #[]) #[v14]) w fun v15 w =>
 K v15 w) w
theorem F138_eq (t0 t1 : Value) : funE P ⟨[(1, 1009)], [], []⟩ Tryz.f138 [t0, t1] w K = F138 P w K t0 t1 := by kernel_rfl
theorem F138_ok (t0 t1 : Value) (h : F138 Tryz.prog w K t0 t1) : callsK Tryz.prog 138 #[t0, t1] w K := calls_of_eq mixedX Tryz.func138 (F138_eq _ w K t0 t1) h
def F166 (t0 : Value) : Prop :=
 kV P (Instr.alloc 35 true (.tuple #[])) w fun v3 w =>
 kU P (Instr.storeAt 35 v3 (.int .u64 0)) w fun _ w =>
 kV P (Builtin.len_ #[273] 3 #[t0]) w fun v9 w =>
 loopT (fun R0 s0 w => ∀ _ : Nat -> Value,
 kV P (binV .lss 3 (.tmp 10) (.tmp 9) (s0.getD 0 undef) v9) w fun v11 w =>
 condK v11
 (kV P (Instr.indexAt 273 t0 (s0.getD 0 undef)) w fun v12 w =>
 kV P (Instr.loadAt 256 v12) w fun v13 w =>
 kV P (Instr.alloc 256 true (.tuple #[])) w fun v6 w =>
 kU P (Instr.storeAt 256 v6 v13) w fun _ w =>
 kV P (Instr.loadAt 256 v6) w fun v15 w =>
 kN P (callN (.func (.func 180) #[] #[v3]) #[v15]) w fun v16 w =>
 kV P (binV .add 3 (.tmp 10) (.const (.int .i64 1)) (s0.getD 0 undef) (.int .i64 1)) w fun v17 w =>
 R0 [v17] w)
 (kV P (Instr.loadAt 35 v3) w fun v18 w =>
 K v18 w)) [(.int .i64 0)] w
theorem F166_eq (t0 : Value) : funE P ⟨[], [(4, [10])], []⟩ Tryz.f166 [t0] w K = F166 P w K t0 := by kernel_rfl
theorem F166_ok (t0 : Value) (h : F166 Tryz.prog w K t0) : callsK Tryz.prog 166 #[t0] w K := calls_of_eq mixedX Tryz.func166 (F166_eq _ w K t0) h
def F180 (t0 t1 : Value) : Prop :=
 kV P (Instr.box 256 t0) w fun v2 w =>
 kV P (Instr.loadAt 35 t1) w fun v3 w =>
 kV P (Instr.fieldAt 256 v2 0) w fun v4 w =>
 kV P (Instr.loadAt 3 v4) w fun v5 w =>
 kV P (Instr.fieldAt 256 v2 1) w fun v6 w =>
 kV P (Instr.loadAt 3 v6) w fun v7 w =>
 kV P (Instr.fieldAt 256 v2 2) w fun v8 w =>
 kV P (Instr.loadAt 35 v8) w fun v9 w =>
 kN P (callN (.func (.func 52) #[] #[]) #[v3, v5, v7, v9]) w fun v10 w =>
 kU P (Instr.storeAt 35 t1 v10) w fun _ w =>
 K (.tuple #[]) w
theorem F180_eq (t0 t1 : Value) : funE P ⟨[], [], []⟩ Tryz.f180 [t0, t1] w K = F180 P w K t0 t1 := by kernel_rfl
theorem F180_ok (t0 t1 : Value) (h : F180 Tryz.prog w K t0 t1) : callsK Tryz.prog 180 #[t0, t1] w K := calls_of_eq mixedX Tryz.func180 (F180_eq _ w K t0 t1) h
def F219 (t0 t1 : Value) : Prop :=
 kV P (Instr.box 52 t0) w fun v2 w =>
 kV P (Instr.fieldAt 52 v2 0) w fun v9 w =>
 kV P (Instr.loadAt 28 v9) w fun v10 w =>
 kN P (callN (.func (.func 208) #[] #[]) #[v10, t1, (.int .i64 4)]) w fun v12 w =>
 kV P (Instr.extract v12 0) w fun v13 w =>
 kV P (Instr.extract v12 1) w fun v14 w =>
 kV P (convert 35 71 v13) w fun v16 w =>
 kN P (callN (.func (.func 224) #[] #[]) #[v14]) w fun v18 w =>
 K (.tuple #[v16, v18]) w
theorem F219_eq (t0 t1 : Value) : funE P ⟨[], [], []⟩ Tryz.f219 [t0, t1] w K = F219 P w K t0 t1 := by kernel_rfl
theorem F219_ok (t0 t1 : Value) (h : F219 Tryz.prog w K t0 t1) : callsK Tryz.prog 219 #[t0, t1] w K := calls_of_eq mixedX Tryz.func219 (F219_eq _ w K t0 t1) h
def F224 (t0 : Value) : Prop :=
 kV P (binV .neq 3 (.tmp 3) (.const (.int .i64 0)) t0 (.int .i64 0)) w fun v4 w =>
 condK v4
 (K (.int .i64 1) w)
 (K (.int .i64 0) w)
theorem F224_eq (t0 : Value) : funE P ⟨[], [], []⟩ Tryz.f224 [t0] w K = F224 P w K t0 := by kernel_rfl
theorem F224_ok (t0 : Value) (h : F224 Tryz.prog w K t0) : callsK Tryz.prog 224 #[t0] w K := calls_of_eq mixedX Tryz.func224 (F224_eq _ w K t0) h
end
end Go.Proofs.YtldkfbelnndaoaaGreatDoor
