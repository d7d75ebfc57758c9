/- The formulas of functions of this seat, each tied to its calls; conditions: none. -/
import Derived.Test.YtplfniijbeinmaaGreatProg
import Derived.Test.YtplfniijbeinmaaGreatFx
import Derived.KernelRfl
namespace Go.Proofs.YtplfniijbeinmaaGreat
open Go.Fx
set_option linter.unusedVariables false
set_option linter.constructorNameAsVariable false
set_option maxRecDepth 100000
theorem mixedM : Tryz.prog.follows .mixedOrders = true := by kernel_rfl
/-- mintmark/ram.New -/
def F21 (P : Program) (t0 : Value) (w : World) (K : Value → World → Prop) : Prop :=
  kV P (binV .lss 3 (.tmp 4) (.const (.int .i64 1)) t0 (.int .i64 1)) w fun v5 w =>
  joinK (fun J0 : Value → World → Prop => gdK (yb v5) false (fun k => k t0 w) w fun v7 w =>
  gdK (yb v5) false (fun k => kV P (binV .gtr 3 (.tmp 7) (.const (.int .i64 64)) v7 (.int .i64 64)) w k) w fun v8 w =>
  kN P (pickN v5 (.bool true) v8) w fun v9_1 w =>
  J0 v9_1 w) fun v9 w =>
  condK v9
  (K (.tuple #[(.pointer none), (.int .i64 2)]) w)
  (kV P (Instr.makeSlice 132 t0 t0) w fun v11 w =>
  kV P (Instr.build 134 #[(0, v11)]) w fun v12 w =>
  kV P (Instr.box 134 v12) w fun v13 w =>
  K (.tuple #[v13, (.int .i64 0)]) w)
theorem F21_eq (P : Program) (t0 : Value) (w : World) (K : Value → World → Prop) : funE P ⟨[], [], []⟩ Tryz.f21 [t0] w K = F21 P t0 w K := by kernel_rfl
theorem F21_ok (t0 : Value) (w : World) (K : Value → World → Prop) (h : F21 Tryz.prog t0 w K) : callsK Tryz.prog 21 #[t0] w K := calls_of_eq mixedM Tryz.func21 (F21_eq _ t0 w K) h

/-- (*mintmark/ram.Ram).Store -/
def F23 (P : Program) (t0 t1 t2 t3 : Value) (w : World) (K : Value → World → Prop) : Prop :=
  kV P (Instr.box 22 t3) w fun v7 w =>
  kN P (callN (.func (.func 52) #[] #[]) #[t2]) w fun v16 w =>
  kV P (Instr.extract v16 0) w fun v17 w =>
  kV P (Instr.extract v16 1) w fun v18 w =>
  kN P (callN (.func (.func 53) #[] #[]) #[t0, t1, v17]) w fun v23 w =>
  kV P (Instr.extract v23 0) w fun v24 w =>
  kV P (Instr.extract v23 1) w fun v25 w =>
  kV P (Instr.extract v23 2) w fun v26 w =>
  kV P (Instr.alloc 137 true (.tuple #[])) w fun v11 w =>
  kV P (Instr.alloc 3 true (.tuple #[])) w fun v12 w =>
  kU P (Instr.storeAt 137 v11 v24) w fun _ w =>
  kU P (Instr.storeAt 3 v12 v25) w fun _ w =>
  joinL (fun J0 =>
  kV P (binV .eql 75 (.tmp 27) (.const (.int .i64 0)) v26 (.int .i64 0)) w fun v28 w =>
  joinK (fun J4 : Value → World → Prop => gdK (yb v28) true (fun k => k v18 w) w fun v30 w =>
  gdK (yb v28) true (fun k => kV P (Op.unary .not v30) w k) w fun v31 w =>
  kN P (pickN v28 v31 (.bool false)) w fun v32_1 w =>
  J4 v32_1 w) fun v32 w =>
  condK v32
  (J0 [(.int .i64 2)] w)
  (J0 [v26] w)) fun s0 w => ∀ _ : Nat → Value,
  kV P (binV .neq 75 (.tmp 33) (.const (.int .i64 0)) (s0.getD 0 undef) (.int .i64 0)) w fun v34 w =>
  condK v34
  (K (s0.getD 0 undef) w)
  (kN P (callN (.func (.func 54) #[] #[]) #[t2, (.func (.func 55) #[] #[v7, v11, v12])]) w fun v38 w =>
  joinL (fun J2 =>
  drewK (fun w =>
  (kV P (Instr.loadAt 137 v11) w fun v39 w =>
  (kV P (Instr.loadAt 137 v11) w fun v40 w =>
  pN P (nilN v40) fun v41 =>
  pV P (Instr.fieldAt 145 v41 1) fun v42 =>
  (kV P (Instr.loadAt 143 v42) w fun v43 w =>
  kV P (Instr.loadAt 3 v12) w fun v44 w =>
  kN P (callN (.func (.func 57) #[] #[]) #[v44, t2]) w fun v46 w =>
  kN P (callN (.func (.func 56) #[] #[]) #[v43, v46]) w fun v47 w =>
  pN P (nilN v39) fun v48 =>
  pV P (Instr.fieldAt 145 v48 1) fun v49 =>
  kU P (Instr.storeAt 143 v49 v47) w fun _ w =>
  J2 [] w) ∧
  (kV P (Instr.loadAt 3 v12) w fun v44_1 w =>
  (kV P (Instr.loadAt 143 v42) w fun v43_1 w =>
  kN P (callN (.func (.func 57) #[] #[]) #[v44_1, t2]) w fun v46_1 w =>
  kN P (callN (.func (.func 56) #[] #[]) #[v43_1, v46_1]) w fun v47_1 w =>
  pN P (nilN v39) fun v48_1 =>
  pV P (Instr.fieldAt 145 v48_1 1) fun v49_1 =>
  kU P (Instr.storeAt 143 v49_1 v47_1) w fun _ w =>
  J2 [] w) ∧
  (kN P (callN (.func (.func 57) #[] #[]) #[v44_1, t2]) w fun v46_2 w =>
  kV P (Instr.loadAt 143 v42) w fun v43_2 w =>
  kN P (callN (.func (.func 56) #[] #[]) #[v43_2, v46_2]) w fun v47_2 w =>
  pN P (nilN v39) fun v48_2 =>
  pV P (Instr.fieldAt 145 v48_2 1) fun v49_2 =>
  kU P (Instr.storeAt 143 v49_2 v47_2) w fun _ w =>
  J2 [] w))) ∧
  (kV P (Instr.loadAt 3 v12) w fun v44_2 w =>
  (kV P (Instr.loadAt 137 v11) w fun v40_1 w =>
  pN P (nilN v40_1) fun v41_1 =>
  pV P (Instr.fieldAt 145 v41_1 1) fun v42_1 =>
  (kV P (Instr.loadAt 143 v42_1) w fun v43_3 w =>
  kN P (callN (.func (.func 57) #[] #[]) #[v44_2, t2]) w fun v46_3 w =>
  kN P (callN (.func (.func 56) #[] #[]) #[v43_3, v46_3]) w fun v47_3 w =>
  pN P (nilN v39) fun v48_3 =>
  pV P (Instr.fieldAt 145 v48_3 1) fun v49_3 =>
  kU P (Instr.storeAt 143 v49_3 v47_3) w fun _ w =>
  J2 [] w) ∧
  (kN P (callN (.func (.func 57) #[] #[]) #[v44_2, t2]) w fun v46_4 w =>
  kV P (Instr.loadAt 143 v42_1) w fun v43_4 w =>
  kN P (callN (.func (.func 56) #[] #[]) #[v43_4, v46_4]) w fun v47_4 w =>
  pN P (nilN v39) fun v48_4 =>
  pV P (Instr.fieldAt 145 v48_4 1) fun v49_4 =>
  kU P (Instr.storeAt 143 v49_4 v47_4) w fun _ w =>
  J2 [] w)) ∧
  (kN P (callN (.func (.func 57) #[] #[]) #[v44_2, t2]) w fun v46_5 w =>
  kV P (Instr.loadAt 137 v11) w fun v40_2 w =>
  pN P (nilN v40_2) fun v41_2 =>
  pV P (Instr.fieldAt 145 v41_2 1) fun v42_2 =>
  kV P (Instr.loadAt 143 v42_2) w fun v43_5 w =>
  kN P (callN (.func (.func 56) #[] #[]) #[v43_5, v46_5]) w fun v47_5 w =>
  pN P (nilN v39) fun v48_5 =>
  pV P (Instr.fieldAt 145 v48_5 1) fun v49_5 =>
  kU P (Instr.storeAt 143 v49_5 v47_5) w fun _ w =>
  J2 [] w))) ∧
  (kV P (Instr.loadAt 137 v11) w fun v40_3 w =>
  pN P (nilN v40_3) fun v41_3 =>
  pV P (Instr.fieldAt 145 v41_3 1) fun v42_3 =>
  (kV P (Instr.loadAt 137 v11) w fun v39_1 w =>
  (kV P (Instr.loadAt 143 v42_3) w fun v43_6 w =>
  kV P (Instr.loadAt 3 v12) w fun v44_3 w =>
  kN P (callN (.func (.func 57) #[] #[]) #[v44_3, t2]) w fun v46_6 w =>
  kN P (callN (.func (.func 56) #[] #[]) #[v43_6, v46_6]) w fun v47_6 w =>
  pN P (nilN v39_1) fun v48_6 =>
  pV P (Instr.fieldAt 145 v48_6 1) fun v49_6 =>
  kU P (Instr.storeAt 143 v49_6 v47_6) w fun _ w =>
  J2 [] w) ∧
  (kV P (Instr.loadAt 3 v12) w fun v44_4 w =>
  (kV P (Instr.loadAt 143 v42_3) w fun v43_7 w =>
  kN P (callN (.func (.func 57) #[] #[]) #[v44_4, t2]) w fun v46_7 w =>
  kN P (callN (.func (.func 56) #[] #[]) #[v43_7, v46_7]) w fun v47_7 w =>
  pN P (nilN v39_1) fun v48_7 =>
  pV P (Instr.fieldAt 145 v48_7 1) fun v49_7 =>
  kU P (Instr.storeAt 143 v49_7 v47_7) w fun _ w =>
  J2 [] w) ∧
  (kN P (callN (.func (.func 57) #[] #[]) #[v44_4, t2]) w fun v46_8 w =>
  kV P (Instr.loadAt 143 v42_3) w fun v43_8 w =>
  kN P (callN (.func (.func 56) #[] #[]) #[v43_8, v46_8]) w fun v47_8 w =>
  pN P (nilN v39_1) fun v48_8 =>
  pV P (Instr.fieldAt 145 v48_8 1) fun v49_8 =>
  kU P (Instr.storeAt 143 v49_8 v47_8) w fun _ w =>
  J2 [] w))) ∧
  (kV P (Instr.loadAt 143 v42_3) w fun v43_9 w =>
  (kV P (Instr.loadAt 137 v11) w fun v39_2 w =>
  kV P (Instr.loadAt 3 v12) w fun v44_5 w =>
  kN P (callN (.func (.func 57) #[] #[]) #[v44_5, t2]) w fun v46_9 w =>
  kN P (callN (.func (.func 56) #[] #[]) #[v43_9, v46_9]) w fun v47_9 w =>
  pN P (nilN v39_2) fun v48_9 =>
  pV P (Instr.fieldAt 145 v48_9 1) fun v49_9 =>
  kU P (Instr.storeAt 143 v49_9 v47_9) w fun _ w =>
  J2 [] w) ∧
  (kV P (Instr.loadAt 3 v12) w fun v44_6 w =>
  (kV P (Instr.loadAt 137 v11) w fun v39_3 w =>
  kN P (callN (.func (.func 57) #[] #[]) #[v44_6, t2]) w fun v46_10 w =>
  kN P (callN (.func (.func 56) #[] #[]) #[v43_9, v46_10]) w fun v47_10 w =>
  pN P (nilN v39_3) fun v48_10 =>
  pV P (Instr.fieldAt 145 v48_10 1) fun v49_10 =>
  kU P (Instr.storeAt 143 v49_10 v47_10) w fun _ w =>
  J2 [] w) ∧
  (kN P (callN (.func (.func 57) #[] #[]) #[v44_6, t2]) w fun v46_11 w =>
  (kV P (Instr.loadAt 137 v11) w fun v39_4 w =>
  kN P (callN (.func (.func 56) #[] #[]) #[v43_9, v46_11]) w fun v47_11 w =>
  pN P (nilN v39_4) fun v48_11 =>
  pV P (Instr.fieldAt 145 v48_11 1) fun v49_11 =>
  kU P (Instr.storeAt 143 v49_11 v47_11) w fun _ w =>
  J2 [] w) ∧
  (kN P (callN (.func (.func 56) #[] #[]) #[v43_9, v46_11]) w fun v47_12 w =>
  kV P (Instr.loadAt 137 v11) w fun v39_5 w =>
  pN P (nilN v39_5) fun v48_12 =>
  pV P (Instr.fieldAt 145 v48_12 1) fun v49_12 =>
  kU P (Instr.storeAt 143 v49_12 v47_12) w fun _ w =>
  J2 [] w)))) ∧
  (kV P (Instr.loadAt 3 v12) w fun v44_7 w =>
  (kV P (Instr.loadAt 137 v11) w fun v39_6 w =>
  (kV P (Instr.loadAt 143 v42_3) w fun v43_10 w =>
  kN P (callN (.func (.func 57) #[] #[]) #[v44_7, t2]) w fun v46_12 w =>
  kN P (callN (.func (.func 56) #[] #[]) #[v43_10, v46_12]) w fun v47_13 w =>
  pN P (nilN v39_6) fun v48_13 =>
  pV P (Instr.fieldAt 145 v48_13 1) fun v49_13 =>
  kU P (Instr.storeAt 143 v49_13 v47_13) w fun _ w =>
  J2 [] w) ∧
  (kN P (callN (.func (.func 57) #[] #[]) #[v44_7, t2]) w fun v46_13 w =>
  kV P (Instr.loadAt 143 v42_3) w fun v43_11 w =>
  kN P (callN (.func (.func 56) #[] #[]) #[v43_11, v46_13]) w fun v47_14 w =>
  pN P (nilN v39_6) fun v48_14 =>
  pV P (Instr.fieldAt 145 v48_14 1) fun v49_14 =>
  kU P (Instr.storeAt 143 v49_14 v47_14) w fun _ w =>
  J2 [] w)) ∧
  (kV P (Instr.loadAt 143 v42_3) w fun v43_12 w =>
  (kV P (Instr.loadAt 137 v11) w fun v39_7 w =>
  kN P (callN (.func (.func 57) #[] #[]) #[v44_7, t2]) w fun v46_14 w =>
  kN P (callN (.func (.func 56) #[] #[]) #[v43_12, v46_14]) w fun v47_15 w =>
  pN P (nilN v39_7) fun v48_15 =>
  pV P (Instr.fieldAt 145 v48_15 1) fun v49_15 =>
  kU P (Instr.storeAt 143 v49_15 v47_15) w fun _ w =>
  J2 [] w) ∧
  (kN P (callN (.func (.func 57) #[] #[]) #[v44_7, t2]) w fun v46_15 w =>
  (kV P (Instr.loadAt 137 v11) w fun v39_8 w =>
  kN P (callN (.func (.func 56) #[] #[]) #[v43_12, v46_15]) w fun v47_16 w =>
  pN P (nilN v39_8) fun v48_16 =>
  pV P (Instr.fieldAt 145 v48_16 1) fun v49_16 =>
  kU P (Instr.storeAt 143 v49_16 v47_16) w fun _ w =>
  J2 [] w) ∧
  (kN P (callN (.func (.func 56) #[] #[]) #[v43_12, v46_15]) w fun v47_17 w =>
  kV P (Instr.loadAt 137 v11) w fun v39_9 w =>
  pN P (nilN v39_9) fun v48_17 =>
  pV P (Instr.fieldAt 145 v48_17 1) fun v49_17 =>
  kU P (Instr.storeAt 143 v49_17 v47_17) w fun _ w =>
  J2 [] w))) ∧
  (kN P (callN (.func (.func 57) #[] #[]) #[v44_7, t2]) w fun v46_16 w =>
  (kV P (Instr.loadAt 137 v11) w fun v39_10 w =>
  kV P (Instr.loadAt 143 v42_3) w fun v43_13 w =>
  kN P (callN (.func (.func 56) #[] #[]) #[v43_13, v46_16]) w fun v47_18 w =>
  pN P (nilN v39_10) fun v48_18 =>
  pV P (Instr.fieldAt 145 v48_18 1) fun v49_18 =>
  kU P (Instr.storeAt 143 v49_18 v47_18) w fun _ w =>
  J2 [] w) ∧
  (kV P (Instr.loadAt 143 v42_3) w fun v43_14 w =>
  (kV P (Instr.loadAt 137 v11) w fun v39_11 w =>
  kN P (callN (.func (.func 56) #[] #[]) #[v43_14, v46_16]) w fun v47_19 w =>
  pN P (nilN v39_11) fun v48_19 =>
  pV P (Instr.fieldAt 145 v48_19 1) fun v49_19 =>
  kU P (Instr.storeAt 143 v49_19 v47_19) w fun _ w =>
  J2 [] w) ∧
  (kN P (callN (.func (.func 56) #[] #[]) #[v43_14, v46_16]) w fun v47_20 w =>
  kV P (Instr.loadAt 137 v11) w fun v39_12 w =>
  pN P (nilN v39_12) fun v48_20 =>
  pV P (Instr.fieldAt 145 v48_20 1) fun v49_20 =>
  kU P (Instr.storeAt 143 v49_20 v47_20) w fun _ w =>
  J2 [] w))))) ∧
  (kV P (Instr.loadAt 3 v12) w fun v44_8 w =>
  (kV P (Instr.loadAt 137 v11) w fun v39_13 w =>
  (kV P (Instr.loadAt 137 v11) w fun v40_4 w =>
  pN P (nilN v40_4) fun v41_4 =>
  pV P (Instr.fieldAt 145 v41_4 1) fun v42_4 =>
  (kV P (Instr.loadAt 143 v42_4) w fun v43_15 w =>
  kN P (callN (.func (.func 57) #[] #[]) #[v44_8, t2]) w fun v46_17 w =>
  kN P (callN (.func (.func 56) #[] #[]) #[v43_15, v46_17]) w fun v47_21 w =>
  pN P (nilN v39_13) fun v48_21 =>
  pV P (Instr.fieldAt 145 v48_21 1) fun v49_21 =>
  kU P (Instr.storeAt 143 v49_21 v47_21) w fun _ w =>
  J2 [] w) ∧
  (kN P (callN (.func (.func 57) #[] #[]) #[v44_8, t2]) w fun v46_18 w =>
  kV P (Instr.loadAt 143 v42_4) w fun v43_16 w =>
  kN P (callN (.func (.func 56) #[] #[]) #[v43_16, v46_18]) w fun v47_22 w =>
  pN P (nilN v39_13) fun v48_22 =>
  pV P (Instr.fieldAt 145 v48_22 1) fun v49_22 =>
  kU P (Instr.storeAt 143 v49_22 v47_22) w fun _ w =>
  J2 [] w)) ∧
  (kN P (callN (.func (.func 57) #[] #[]) #[v44_8, t2]) w fun v46_19 w =>
  kV P (Instr.loadAt 137 v11) w fun v40_5 w =>
  pN P (nilN v40_5) fun v41_5 =>
  pV P (Instr.fieldAt 145 v41_5 1) fun v42_5 =>
  kV P (Instr.loadAt 143 v42_5) w fun v43_17 w =>
  kN P (callN (.func (.func 56) #[] #[]) #[v43_17, v46_19]) w fun v47_23 w =>
  pN P (nilN v39_13) fun v48_23 =>
  pV P (Instr.fieldAt 145 v48_23 1) fun v49_23 =>
  kU P (Instr.storeAt 143 v49_23 v47_23) w fun _ w =>
  J2 [] w)) ∧
  (kV P (Instr.loadAt 137 v11) w fun v40_6 w =>
  pN P (nilN v40_6) fun v41_6 =>
  pV P (Instr.fieldAt 145 v41_6 1) fun v42_6 =>
  (kV P (Instr.loadAt 137 v11) w fun v39_14 w =>
  (kV P (Instr.loadAt 143 v42_6) w fun v43_18 w =>
  kN P (callN (.func (.func 57) #[] #[]) #[v44_8, t2]) w fun v46_20 w =>
  kN P (callN (.func (.func 56) #[] #[]) #[v43_18, v46_20]) w fun v47_24 w =>
  pN P (nilN v39_14) fun v48_24 =>
  pV P (Instr.fieldAt 145 v48_24 1) fun v49_24 =>
  kU P (Instr.storeAt 143 v49_24 v47_24) w fun _ w =>
  J2 [] w) ∧
  (kN P (callN (.func (.func 57) #[] #[]) #[v44_8, t2]) w fun v46_21 w =>
  kV P (Instr.loadAt 143 v42_6) w fun v43_19 w =>
  kN P (callN (.func (.func 56) #[] #[]) #[v43_19, v46_21]) w fun v47_25 w =>
  pN P (nilN v39_14) fun v48_25 =>
  pV P (Instr.fieldAt 145 v48_25 1) fun v49_25 =>
  kU P (Instr.storeAt 143 v49_25 v47_25) w fun _ w =>
  J2 [] w)) ∧
  (kV P (Instr.loadAt 143 v42_6) w fun v43_20 w =>
  (kV P (Instr.loadAt 137 v11) w fun v39_15 w =>
  kN P (callN (.func (.func 57) #[] #[]) #[v44_8, t2]) w fun v46_22 w =>
  kN P (callN (.func (.func 56) #[] #[]) #[v43_20, v46_22]) w fun v47_26 w =>
  pN P (nilN v39_15) fun v48_26 =>
  pV P (Instr.fieldAt 145 v48_26 1) fun v49_26 =>
  kU P (Instr.storeAt 143 v49_26 v47_26) w fun _ w =>
  J2 [] w) ∧
  (kN P (callN (.func (.func 57) #[] #[]) #[v44_8, t2]) w fun v46_23 w =>
  (kV P (Instr.loadAt 137 v11) w fun v39_16 w =>
  kN P (callN (.func (.func 56) #[] #[]) #[v43_20, v46_23]) w fun v47_27 w =>
  pN P (nilN v39_16) fun v48_27 =>
  pV P (Instr.fieldAt 145 v48_27 1) fun v49_27 =>
  kU P (Instr.storeAt 143 v49_27 v47_27) w fun _ w =>
  J2 [] w) ∧
  (kN P (callN (.func (.func 56) #[] #[]) #[v43_20, v46_23]) w fun v47_28 w =>
  kV P (Instr.loadAt 137 v11) w fun v39_17 w =>
  pN P (nilN v39_17) fun v48_28 =>
  pV P (Instr.fieldAt 145 v48_28 1) fun v49_28 =>
  kU P (Instr.storeAt 143 v49_28 v47_28) w fun _ w =>
  J2 [] w))) ∧
  (kN P (callN (.func (.func 57) #[] #[]) #[v44_8, t2]) w fun v46_24 w =>
  (kV P (Instr.loadAt 137 v11) w fun v39_18 w =>
  kV P (Instr.loadAt 143 v42_6) w fun v43_21 w =>
  kN P (callN (.func (.func 56) #[] #[]) #[v43_21, v46_24]) w fun v47_29 w =>
  pN P (nilN v39_18) fun v48_29 =>
  pV P (Instr.fieldAt 145 v48_29 1) fun v49_29 =>
  kU P (Instr.storeAt 143 v49_29 v47_29) w fun _ w =>
  J2 [] w) ∧
  (kV P (Instr.loadAt 143 v42_6) w fun v43_22 w =>
  (kV P (Instr.loadAt 137 v11) w fun v39_19 w =>
  kN P (callN (.func (.func 56) #[] #[]) #[v43_22, v46_24]) w fun v47_30 w =>
  pN P (nilN v39_19) fun v48_30 =>
  pV P (Instr.fieldAt 145 v48_30 1) fun v49_30 =>
  kU P (Instr.storeAt 143 v49_30 v47_30) w fun _ w =>
  J2 [] w) ∧
  (kN P (callN (.func (.func 56) #[] #[]) #[v43_22, v46_24]) w fun v47_31 w =>
  kV P (Instr.loadAt 137 v11) w fun v39_20 w =>
  pN P (nilN v39_20) fun v48_31 =>
  pV P (Instr.fieldAt 145 v48_31 1) fun v49_31 =>
  kU P (Instr.storeAt 143 v49_31 v47_31) w fun _ w =>
  J2 [] w)))) ∧
  (kN P (callN (.func (.func 57) #[] #[]) #[v44_8, t2]) w fun v46_25 w =>
  (kV P (Instr.loadAt 137 v11) w fun v39_21 w =>
  kV P (Instr.loadAt 137 v11) w fun v40_7 w =>
  pN P (nilN v40_7) fun v41_7 =>
  pV P (Instr.fieldAt 145 v41_7 1) fun v42_7 =>
  kV P (Instr.loadAt 143 v42_7) w fun v43_23 w =>
  kN P (callN (.func (.func 56) #[] #[]) #[v43_23, v46_25]) w fun v47_32 w =>
  pN P (nilN v39_21) fun v48_32 =>
  pV P (Instr.fieldAt 145 v48_32 1) fun v49_32 =>
  kU P (Instr.storeAt 143 v49_32 v47_32) w fun _ w =>
  J2 [] w) ∧
  (kV P (Instr.loadAt 137 v11) w fun v40_8 w =>
  pN P (nilN v40_8) fun v41_8 =>
  pV P (Instr.fieldAt 145 v41_8 1) fun v42_8 =>
  (kV P (Instr.loadAt 137 v11) w fun v39_22 w =>
  kV P (Instr.loadAt 143 v42_8) w fun v43_24 w =>
  kN P (callN (.func (.func 56) #[] #[]) #[v43_24, v46_25]) w fun v47_33 w =>
  pN P (nilN v39_22) fun v48_33 =>
  pV P (Instr.fieldAt 145 v48_33 1) fun v49_33 =>
  kU P (Instr.storeAt 143 v49_33 v47_33) w fun _ w =>
  J2 [] w) ∧
  (kV P (Instr.loadAt 143 v42_8) w fun v43_25 w =>
  (kV P (Instr.loadAt 137 v11) w fun v39_23 w =>
  kN P (callN (.func (.func 56) #[] #[]) #[v43_25, v46_25]) w fun v47_34 w =>
  pN P (nilN v39_23) fun v48_34 =>
  pV P (Instr.fieldAt 145 v48_34 1) fun v49_34 =>
  kU P (Instr.storeAt 143 v49_34 v47_34) w fun _ w =>
  J2 [] w) ∧
  (kN P (callN (.func (.func 56) #[] #[]) #[v43_25, v46_25]) w fun v47_35 w =>
  kV P (Instr.loadAt 137 v11) w fun v39_24 w =>
  pN P (nilN v39_24) fun v48_35 =>
  pV P (Instr.fieldAt 145 v48_35 1) fun v49_35 =>
  kU P (Instr.storeAt 143 v49_35 v47_35) w fun _ w =>
  J2 [] w)))))) w) fun s2 w => ∀ _ : Nat → Value,
  K (.int .i64 0) w)
theorem F23_eq (P : Program) (t0 t1 t2 t3 : Value) (w : World) (K : Value → World → Prop) : funE P ⟨[(8, 999)], [], [(5, [13]), (9, [])]⟩ Tryz.f23 [t0, t1, t2, t3] w K = F23 P t0 t1 t2 t3 w K := by kernel_rfl
theorem F23_ok (t0 t1 t2 t3 : Value) (w : World) (K : Value → World → Prop) (h : F23 Tryz.prog t0 t1 t2 t3 w K) : callsK Tryz.prog 23 #[t0, t1, t2, t3] w K := calls_of_eq mixedM Tryz.func23 (F23_eq _ t0 t1 t2 t3 w K) h

/-- mintmark/ram.number -/
def F52 (P : Program) (t0 : Value) (w : World) (K : Value → World → Prop) : Prop :=
  joinL (fun J0 =>
  kV P (binV .eql 3 (.tmp 4) (.const (.int .i64 1)) t0 (.int .i64 1)) w fun v6 w =>
  condK v6
  (J0 [v6] w)
  (kV P (binV .eql 3 (.tmp 4) (.const (.int .i64 2)) t0 (.int .i64 2)) w fun v7 w =>
  condK v7
  (J0 [v7] w)
  (kV P (binV .eql 3 (.tmp 4) (.const (.int .i64 4)) t0 (.int .i64 4)) w fun v8 w =>
  condK v8
  (J0 [v8] w)
  (kV P (binV .eql 3 (.tmp 4) (.const (.int .i64 8)) t0 (.int .i64 8)) w fun v9 w =>
  J0 [v9] w)))) fun s0 w => ∀ _ : Nat → Value,
  condK (s0.getD 0 undef)
  (kV P (convert 3 22 t0) w fun v11 w =>
  K (.tuple #[v11, (.bool true)]) w)
  (K (.tuple #[(.int .u64 1), (.bool false)]) w)
theorem F52_eq (P : Program) (t0 : Value) (w : World) (K : Value → World → Prop) : funE P ⟨[], [], [(6, [5])]⟩ Tryz.f52 [t0] w K = F52 P t0 w K := by kernel_rfl
theorem F52_ok (t0 : Value) (w : World) (K : Value → World → Prop) (h : F52 Tryz.prog t0 w K) : callsK Tryz.prog 52 #[t0] w K := calls_of_eq mixedM Tryz.func52 (F52_eq _ t0 w K) h

/-- (*mintmark/ram.Ram).place -/
def F53 (P : Program) (t0 t1 t2 : Value) (w : World) (K : Value → World → Prop) : Prop :=
  kN P (callN (.func (.func 91) #[] #[]) #[t0]) w fun v11 w =>
  condK v11
  (K (.tuple #[(.pointer none), (.int .i64 0), (.int .i64 1)]) w)
  (kV P (binV .rem 22 (.tmp 13) (.tmp 14) t1 t2) w fun v15 w =>
  kV P (binV .neq 22 (.tmp 15) (.const (.int .u64 0)) v15 (.int .u64 0)) w fun v16 w =>
  joinK (fun J0 : Value → World → Prop => gdK (yb v16) false (fun k => k t1 w) w fun v18 w =>
  gdK (yb v16) false (fun k => kV P (binV .quo 22 (.tmp 18) (.const (.int .u64 4096)) v18 (.int .u64 4096)) w k) w fun v19 w =>
  gdK (yb v16) false (fun k => k t0 w) w fun v20 w =>
  gdK (yb v16) false (fun k => kN P (nilN v20) w k) w fun v21 w =>
  gdK (yb v16) false (fun k => kV P (Instr.fieldAt 134 v21 0) w k) w fun v22 w =>
  gdK (yb v16) false (fun k => kV P (Instr.loadAt 132 v22) w k) w fun v23 w =>
  gdK (yb v16) false (fun k => kV P (Builtin.len_ #[132] 3 #[v23]) w k) w fun v24 w =>
  gdK (yb v16) false (fun k => kV P (convert 3 22 v24) w k) w fun v25 w =>
  gdK (yb v16) false (fun k => kV P (binV .geq 22 (.tmp 19) (.tmp 25) v19 v25) w k) w fun v26 w =>
  kN P (pickN v16 (.bool true) v26) w fun v27_1 w =>
  J0 v27_1 w) fun v27 w =>
  condK v27
  (K (.tuple #[(.pointer none), (.int .i64 0), (.int .i64 2)]) w)
  (kN P (nilN t0) w fun v29 w =>
  kV P (Instr.fieldAt 134 v29 0) w fun v30 w =>
  kV P (Instr.loadAt 132 v30) w fun v31 w =>
  kV P (binV .quo 22 (.tmp 32) (.const (.int .u64 4096)) t1 (.int .u64 4096)) w fun v33 w =>
  kV P (Instr.indexAt 132 v31 v33) w fun v34 w =>
  kV P (binV .rem 22 (.tmp 35) (.const (.int .u64 4096)) t1 (.int .u64 4096)) w fun v36 w =>
  kV P (convert 22 3 v36) w fun v37 w =>
  K (.tuple #[v34, v37, (.int .i64 0)]) w))
theorem F53_eq (P : Program) (t0 t1 t2 : Value) (w : World) (K : Value → World → Prop) : funE P ⟨[], [], []⟩ Tryz.f53 [t0, t1, t2] w K = F53 P t0 t1 t2 w K := by kernel_rfl
theorem F53_ok (t0 t1 t2 : Value) (w : World) (K : Value → World → Prop) (h : F53 Tryz.prog t0 t1 t2 w K) : callsK Tryz.prog 53 #[t0, t1, t2] w K := calls_of_eq mixedM Tryz.func53 (F53_eq _ t0 t1 t2 w K) h

/-- mintmark/ram.each -/
def F54 (P : Program) (t0 t1 : Value) (w : World) (K : Value → World → Prop) : Prop :=
  loopT (fun R0 s0 w => ∀ _ : Nat → Value,
  kV P (binV .lss 3 (.tmp 6) (.tmp 5) (s0.getD 0 undef) t0) w fun v7 w =>
  condK v7
  (kN P (callN t1 #[(s0.getD 0 undef)]) w fun v11 w =>
  kV P (binV .add 3 (.tmp 6) (.const (.int .i64 1)) (s0.getD 0 undef) (.int .i64 1)) w fun v12 w =>
  R0 [v12] w)
  (K (.tuple #[]) w)) [(.int .i64 0)] w
theorem F54_eq (P : Program) (t0 t1 : Value) (w : World) (K : Value → World → Prop) : funE P ⟨[], [(1, [6])], []⟩ Tryz.f54 [t0, t1] w K = F54 P t0 t1 w K := by kernel_rfl
theorem F54_ok (t0 t1 : Value) (w : World) (K : Value → World → Prop) (h : F54 Tryz.prog t0 t1 w K) : callsK Tryz.prog 54 #[t0, t1] w K := calls_of_eq mixedM Tryz.func54 (F54_eq _ t0 t1 w K) h

/-- (*mintmark/ram.Ram).Store$1 -/
def F55 (P : Program) (t0 t1 t2 t3 : Value) (w : World) (K : Value → World → Prop) : Prop :=
  drewK (fun w =>
  sV P (Instr.loadAt 137 t2) w fun v5 =>
  sV P (Instr.loadAt 3 t3) w fun v6 =>
  sV P (binV .add 3 (.tmp 6) (.tmp 7) v6 t0) w fun v8 =>
  sV P (Instr.loadAt 22 t1) w fun v9 =>
  sV P (binV .mul 3 (.const (.int .i64 8)) (.tmp 10) (.int .i64 8) t0) w fun v11 =>
  sV P (binV .shr 22 (.tmp 9) (.tmp 11) v9 v11) w fun v12 =>
  sV P (convert 22 5 v12) w fun v13 =>
  sN P (nilN v5) w fun v14 =>
  sV P (Instr.fieldAt 145 v14 0) w fun v15 =>
  kV P (Instr.indexAt 141 v15 v8) w fun v16 w =>
  kU P (Instr.storeAt 5 v16 v13) w fun _ w =>
  K (.tuple #[]) w) w
theorem F55_eq (P : Program) (t0 t1 t2 t3 : Value) (w : World) (K : Value → World → Prop) : funE P ⟨[(0, 11)], [], []⟩ Tryz.f55 [t0, t1, t2, t3] w K = F55 P t0 t1 t2 t3 w K := by kernel_rfl
theorem F55_ok (t0 t1 t2 t3 : Value) (w : World) (K : Value → World → Prop) (h : F55 Tryz.prog t0 t1 t2 t3 w K) : callsK Tryz.prog 55 #[t0, t1, t2, t3] w K := calls_of_eq mixedM Tryz.func55 (F55_eq _ t0 t1 t2 t3 w K) h

/-- (mintmark/tags.Set).Without -/
def F56 (P : Program) (t0 t1 : Value) (w : World) (K : Value → World → Prop) : Prop :=
  kV P (Instr.box 143 t0) w fun v2 w =>
  kV P (Instr.box 143 t1) w fun v3 w =>
  kV P (Instr.alloc 143 true (.tuple #[])) w fun v4 w =>
  loopT (fun R0 s0 w => ∀ _ : Nat → Value,
  kV P (binV .lss 3 (.tmp 6) (.const (.int .i64 4)) (s0.getD 0 undef) (.int .i64 4)) w fun v7 w =>
  condK v7
  (drewK (fun w =>
  sV P (Instr.indexAt 143 v2 (s0.getD 0 undef)) w fun v10 =>
  sV P (Instr.loadAt 22 v10) w fun v11 =>
  sV P (Instr.indexAt 143 v3 (s0.getD 0 undef)) w fun v13 =>
  sV P (Instr.loadAt 22 v13) w fun v14 =>
  kV P (binV .andNot 22 (.tmp 11) (.tmp 14) v11 v14) w fun v15 w =>
  kV P (Instr.indexAt 143 v2 (s0.getD 0 undef)) w fun v16 w =>
  kU P (Instr.storeAt 22 v16 v15) w fun _ w =>
  kV P (binV .add 3 (.tmp 6) (.const (.int .i64 1)) (s0.getD 0 undef) (.int .i64 1)) w fun v17 w =>
  R0 [v17] w) w)
  (kV P (Instr.loadAt 143 v2) w fun v18 w =>
  kU P (Instr.storeAt 143 v4 v18) w fun _ w =>
  retV P 143 v4 w fun r2 =>
  K r2 w)) [(.int .i64 0)] w
theorem F56_eq (P : Program) (t0 t1 : Value) (w : World) (K : Value → World → Prop) : funE P ⟨[(4, 6)], [(2, [6])], []⟩ Tryz.f56 [t0, t1] w K = F56 P t0 t1 w K := by kernel_rfl
theorem F56_ok (t0 t1 : Value) (w : World) (K : Value → World → Prop) (h : F56 Tryz.prog t0 t1 w K) : callsK Tryz.prog 56 #[t0, t1] w K := calls_of_eq mixedM Tryz.func56 (F56_eq _ t0 t1 w K) h

/-- mintmark/tags.Cover -/
def F57 (P : Program) (t0 t1 : Value) (w : World) (K : Value → World → Prop) : Prop :=
  kV P (Instr.alloc 143 true (.tuple #[])) w fun v4 w =>
  kV P (Instr.alloc 143 true (.tuple #[])) w fun v5 w =>
  kV P (binV .lss 3 (.tmp 8) (.const (.int .i64 1)) t1 (.int .i64 1)) w fun v9 w =>
  joinK (fun J0 : Value → World → Prop => gdK (yb v9) false (fun k => k t0 w) w fun v11 w =>
  gdK (yb v9) false (fun k => kV P (binV .geq 3 (.tmp 11) (.const (.int .i64 4096)) v11 (.int .i64 4096)) w k) w fun v12 w =>
  kN P (pickN v9 (.bool true) v12) w fun v13_1 w =>
  J0 v13_1 w) fun v13 w =>
  condK v13
  (kV P (Instr.loadAt 143 v5) w fun v14 w =>
  kU P (Instr.storeAt 143 v4 v14) w fun _ w =>
  retV P 143 v4 w fun r1 =>
  K r1 w)
  (joinL (fun J2 =>
  kV P (binV .lss 3 (.tmp 15) (.const (.int .i64 0)) t0 (.int .i64 0)) w fun v16 w =>
  condK v16
  (kV P (binV .lss 3 (.tmp 17) (.const (.int .i64 (-4096))) t0 (.int .i64 (-4096))) w fun v18 w =>
  joinK (fun J8 : Value → World → Prop => gdK (yb v18) true (fun k => k t0 w) w fun v20 w =>
  gdK (yb v18) true (fun k => k t1 w) w fun v21 w =>
  gdK (yb v18) true (fun k => kV P (binV .add 3 (.tmp 20) (.tmp 21) v20 v21) w k) w fun v22 w =>
  gdK (yb v18) true (fun k => kV P (binV .leq 3 (.tmp 22) (.const (.int .i64 0)) v22 (.int .i64 0)) w k) w fun v23 w =>
  kN P (pickN v18 v23 (.bool false)) w fun v24_1 w =>
  J8 v24_1 w) fun v24 w =>
  joinK (fun J9 : Value → World → Prop => gdK (yb v24) false (fun k => k t1 w) w fun v26 w =>
  gdK (yb v24) false (fun k => k t0 w) w fun v27 w =>
  gdK (yb v24) false (fun k => kV P (Op.unary .neg v27) w k) w fun v28 w =>
  gdK (yb v24) false (fun k => kV P (binV .leq 3 (.tmp 26) (.tmp 28) v26 v28) w k) w fun v29 w =>
  kN P (pickN v24 (.bool true) v29) w fun v30_1 w =>
  J9 v30_1 w) fun v30 w =>
  condK v30
  (kV P (Instr.loadAt 143 v5) w fun v31 w =>
  kU P (Instr.storeAt 143 v4 v31) w fun _ w =>
  retV P 143 v4 w fun r10 =>
  K r10 w)
  (kV P (binV .add 3 (.tmp 32) (.tmp 33) t1 t0) w fun v34 w =>
  J2 [(.int .i64 0), v34] w))
  (J2 [t0, t1] w)) fun s2 w => ∀ _ : Nat → Value,
  kV P (binV .sub 3 (.const (.int .i64 4096)) (.tmp 37) (.int .i64 4096) (s2.getD 0 undef)) w fun v38 w =>
  kV P (Builtin.min_ #[3, 3] 3 #[(s2.getD 1 undef), v38]) w fun v39 w =>
  kV P (binV .add 3 (.tmp 35) (.tmp 39) (s2.getD 0 undef) v39) w fun v40 w =>
  kV P (binV .sub 3 (.tmp 40) (.const (.int .i64 1)) v40 (.int .i64 1)) w fun v41 w =>
  loopT (fun R4 s4 w => ∀ _ : Nat → Value,
  kV P (binV .lss 3 (.tmp 42) (.const (.int .i64 256)) (s4.getD 0 undef) (.int .i64 256)) w fun v43 w =>
  condK v43
  (kV P (Instr.loadAt 143 v5) w fun v45 w =>
  kV P (binV .quo 3 (.tmp 48) (.const (.int .i64 16)) (s2.getD 0 undef) (.int .i64 16)) w fun v49 w =>
  kV P (binV .geq 3 (.tmp 47) (.tmp 49) (s4.getD 0 undef) v49) w fun v50 w =>
  joinK (fun J6 : Value → World → Prop => gdK (yb v50) true (fun k => k (s4.getD 0 undef) w) w fun v52 w =>
  gdK (yb v50) true (fun k => k v41 w) w fun v53 w =>
  gdK (yb v50) true (fun k => kV P (binV .quo 3 (.tmp 53) (.const (.int .i64 16)) v53 (.int .i64 16)) w k) w fun v54 w =>
  gdK (yb v50) true (fun k => kV P (binV .leq 3 (.tmp 52) (.tmp 54) v52 v54) w k) w fun v55 w =>
  kN P (pickN v50 v55 (.bool false)) w fun v56_1 w =>
  J6 v56_1 w) fun v56 w =>
  kN P (callN (.func (.func 61) #[] #[]) #[v45, (s4.getD 0 undef), v56]) w fun v57 w =>
  kU P (Instr.storeAt 143 v5 v57) w fun _ w =>
  kV P (binV .add 3 (.tmp 42) (.const (.int .i64 1)) (s4.getD 0 undef) (.int .i64 1)) w fun v58 w =>
  R4 [v58] w)
  (kV P (Instr.loadAt 143 v5) w fun v59 w =>
  kU P (Instr.storeAt 143 v4 v59) w fun _ w =>
  retV P 143 v4 w fun r7 =>
  K r7 w)) [(.int .i64 0)] w)
theorem F57_eq (P : Program) (t0 t1 : Value) (w : World) (K : Value → World → Prop) : funE P ⟨[], [(10, [42])], [(8, [0, 1])]⟩ Tryz.f57 [t0, t1] w K = F57 P t0 t1 w K := by kernel_rfl
theorem F57_ok (t0 t1 : Value) (w : World) (K : Value → World → Prop) (h : F57 Tryz.prog t0 t1 w K) : callsK Tryz.prog 57 #[t0, t1] w K := calls_of_eq mixedM Tryz.func57 (F57_eq _ t0 t1 w K) h

/-- (mintmark/tags.Set).With -/
def F61 (P : Program) (t0 t1 t2 : Value) (w : World) (K : Value → World → Prop) : Prop :=
  kV P (Instr.box 143 t0) w fun v3 w =>
  kV P (Instr.alloc 143 true (.tuple #[])) w fun v6 w =>
  kN P (callN (.func (.func 93) #[] #[]) #[t1]) w fun v9 w =>
  kV P (Op.unary .not v9) w fun v10 w =>
  condK v10
  (kV P (Instr.loadAt 143 v3) w fun v11 w =>
  kU P (Instr.storeAt 143 v6 v11) w fun _ w =>
  retV P 143 v6 w fun r0 =>
  K r0 w)
  (kV P (binV .rem 3 (.tmp 12) (.const (.int .i64 64)) t1 (.int .i64 64)) w fun v13 w =>
  kV P (binV .shl 22 (.const (.int .u64 1)) (.tmp 13) (.int .u64 1) v13) w fun v14 w =>
  joinL (fun J1 =>
  condK t2
  (kV P (binV .quo 3 (.tmp 16) (.const (.int .i64 64)) t1 (.int .i64 64)) w fun v17 w =>
  kV P (Instr.indexAt 143 v3 v17) w fun v18 w =>
  kV P (Instr.loadAt 22 v18) w fun v19 w =>
  kV P (binV .or 22 (.tmp 19) (.tmp 20) v19 v14) w fun v21 w =>
  kV P (Instr.indexAt 143 v3 v17) w fun v22 w =>
  kU P (Instr.storeAt 22 v22 v21) w fun _ w =>
  J1 [] w)
  (kV P (binV .quo 3 (.tmp 23) (.const (.int .i64 64)) t1 (.int .i64 64)) w fun v24 w =>
  kV P (Instr.indexAt 143 v3 v24) w fun v25 w =>
  kV P (Instr.loadAt 22 v25) w fun v26 w =>
  kV P (binV .andNot 22 (.tmp 26) (.tmp 27) v26 v14) w fun v28 w =>
  kV P (Instr.indexAt 143 v3 v24) w fun v29 w =>
  kU P (Instr.storeAt 22 v29 v28) w fun _ w =>
  J1 [] w)) fun s1 w => ∀ _ : Nat → Value,
  kV P (Instr.loadAt 143 v3) w fun v30 w =>
  kU P (Instr.storeAt 143 v6 v30) w fun _ w =>
  retV P 143 v6 w fun r3 =>
  K r3 w)
theorem F61_eq (P : Program) (t0 t1 t2 : Value) (w : World) (K : Value → World → Prop) : funE P ⟨[], [], [(7, [])]⟩ Tryz.f61 [t0, t1, t2] w K = F61 P t0 t1 t2 w K := by kernel_rfl
theorem F61_ok (t0 t1 t2 : Value) (w : World) (K : Value → World → Prop) (h : F61 Tryz.prog t0 t1 t2 w K) : callsK Tryz.prog 61 #[t0, t1, t2] w K := calls_of_eq mixedM Tryz.func61 (F61_eq _ t0 t1 t2 w K) h

/-- (*mintmark/ram.Ram).none -/
def F91 (P : Program) (t0 : Value) (w : World) (K : Value → World → Prop) : Prop :=
  kV P (binV .eql 31 (.tmp 3) (.const (.pointer none)) t0 (.pointer none)) w fun v4 w =>
  joinK (fun J0 : Value → World → Prop => gdK (yb v4) false (fun k => k t0 w) w fun v6 w =>
  gdK (yb v4) false (fun k => kN P (nilN v6) w k) w fun v7 w =>
  gdK (yb v4) false (fun k => kV P (Instr.fieldAt 134 v7 0) w k) w fun v8 w =>
  gdK (yb v4) false (fun k => kV P (Instr.loadAt 132 v8) w k) w fun v9 w =>
  gdK (yb v4) false (fun k => kV P (Builtin.len_ #[132] 3 #[v9]) w k) w fun v10 w =>
  gdK (yb v4) false (fun k => kV P (binV .eql 3 (.tmp 10) (.const (.int .i64 0)) v10 (.int .i64 0)) w k) w fun v11 w =>
  kN P (pickN v4 (.bool true) v11) w fun v12_1 w =>
  J0 v12_1 w) fun v12 w =>
  K v12 w
theorem F91_eq (P : Program) (t0 : Value) (w : World) (K : Value → World → Prop) : funE P ⟨[], [], []⟩ Tryz.f91 [t0] w K = F91 P t0 w K := by kernel_rfl
theorem F91_ok (t0 : Value) (w : World) (K : Value → World → Prop) (h : F91 Tryz.prog t0 w K) : callsK Tryz.prog 91 #[t0] w K := calls_of_eq mixedM Tryz.func91 (F91_eq _ t0 w K) h

/-- mintmark/tags.is -/
def F93 (P : Program) (t0 : Value) (w : World) (K : Value → World → Prop) : Prop :=
  kV P (binV .geq 3 (.tmp 3) (.const (.int .i64 0)) t0 (.int .i64 0)) w fun v4 w =>
  joinK (fun J0 : Value → World → Prop => gdK (yb v4) true (fun k => k t0 w) w fun v6 w =>
  gdK (yb v4) true (fun k => kV P (binV .lss 3 (.tmp 6) (.const (.int .i64 256)) v6 (.int .i64 256)) w k) w fun v7 w =>
  kN P (pickN v4 v7 (.bool false)) w fun v8_1 w =>
  J0 v8_1 w) fun v8 w =>
  K v8 w
theorem F93_eq (P : Program) (t0 : Value) (w : World) (K : Value → World → Prop) : funE P ⟨[], [], []⟩ Tryz.f93 [t0] w K = F93 P t0 w K := by kernel_rfl
theorem F93_ok (t0 : Value) (w : World) (K : Value → World → Prop) (h : F93 Tryz.prog t0 w K) : callsK Tryz.prog 93 #[t0] w K := calls_of_eq mixedM Tryz.func93 (F93_eq _ t0 w K) h

/-- (*mintmark/ram.Ram).Load -/
def F147 (P : Program) (t0 t1 t2 : Value) (w : World) (K : Value → World → Prop) : Prop :=
  kN P (callN (.func (.func 52) #[] #[]) #[t2]) w fun v16 w =>
  kV P (Instr.extract v16 0) w fun v17 w =>
  kV P (Instr.extract v16 1) w fun v18 w =>
  kN P (callN (.func (.func 53) #[] #[]) #[t0, t1, v17]) w fun v23 w =>
  kV P (Instr.extract v23 0) w fun v24 w =>
  kV P (Instr.extract v23 1) w fun v25 w =>
  kV P (Instr.extract v23 2) w fun v26 w =>
  kV P (Instr.alloc 137 true (.tuple #[])) w fun v10 w =>
  kV P (Instr.alloc 3 true (.tuple #[])) w fun v11 w =>
  kU P (Instr.storeAt 137 v10 v24) w fun _ w =>
  kU P (Instr.storeAt 3 v11 v25) w fun _ w =>
  joinL (fun J0 =>
  kV P (binV .eql 75 (.tmp 27) (.const (.int .i64 0)) v26 (.int .i64 0)) w fun v28 w =>
  joinK (fun J2 : Value → World → Prop => gdK (yb v28) true (fun k => k v18 w) w fun v30 w =>
  gdK (yb v28) true (fun k => kV P (Op.unary .not v30) w k) w fun v31 w =>
  kN P (pickN v28 v31 (.bool false)) w fun v32_1 w =>
  J2 v32_1 w) fun v32 w =>
  condK v32
  (J0 [(.int .i64 2)] w)
  (J0 [v26] w)) fun s0 w => ∀ _ : Nat → Value,
  kV P (binV .neq 75 (.tmp 33) (.const (.int .i64 0)) (s0.getD 0 undef) (.int .i64 0)) w fun v34 w =>
  condK v34
  (K (.tuple #[(.int .u64 0), (s0.getD 0 undef)]) w)
  (kV P (Instr.alloc 22 true (.tuple #[])) w fun v13 w =>
  kU P (Instr.storeAt 22 v13 (.int .u64 0)) w fun _ w =>
  kN P (callN (.func (.func 54) #[] #[]) #[t2, (.func (.func 149) #[] #[v13, v10, v11])]) w fun v38 w =>
  kV P (Instr.loadAt 22 v13) w fun v39 w =>
  K (.tuple #[v39, (.int .i64 0)]) w)
theorem F147_eq (P : Program) (t0 t1 t2 : Value) (w : World) (K : Value → World → Prop) : funE P ⟨[], [], [(5, [12])]⟩ Tryz.f147 [t0, t1, t2] w K = F147 P t0 t1 t2 w K := by kernel_rfl
theorem F147_ok (t0 t1 t2 : Value) (w : World) (K : Value → World → Prop) (h : F147 Tryz.prog t0 t1 t2 w K) : callsK Tryz.prog 147 #[t0, t1, t2] w K := calls_of_eq mixedM Tryz.func147 (F147_eq _ t0 t1 t2 w K) h

/-- (*mintmark/ram.Ram).Load$1 -/
def F149 (P : Program) (t0 t1 t2 t3 : Value) (w : World) (K : Value → World → Prop) : Prop :=
  drewK (fun w =>
  sV P (Instr.loadAt 22 t1) w fun v5 =>
  sV P (Instr.loadAt 137 t2) w fun v6 =>
  sV P (Instr.loadAt 3 t3) w fun v7 =>
  sV P (binV .add 3 (.tmp 7) (.tmp 8) v7 t0) w fun v9 =>
  sN P (nilN v6) w fun v10 =>
  sV P (Instr.fieldAt 145 v10 0) w fun v11 =>
  sV P (Instr.indexAt 141 v11 v9) w fun v12 =>
  sV P (Instr.loadAt 5 v12) w fun v13 =>
  sV P (convert 5 22 v13) w fun v14 =>
  sV P (binV .mul 3 (.const (.int .i64 8)) (.tmp 15) (.int .i64 8) t0) w fun v16 =>
  sV P (binV .shl 22 (.tmp 14) (.tmp 16) v14 v16) w fun v17 =>
  kV P (binV .or 22 (.tmp 5) (.tmp 17) v5 v17) w fun v18 w =>
  kU P (Instr.storeAt 22 t1 v18) w fun _ w =>
  K (.tuple #[]) w) w
theorem F149_eq (P : Program) (t0 t1 t2 t3 : Value) (w : World) (K : Value → World → Prop) : funE P ⟨[(0, 13)], [], []⟩ Tryz.f149 [t0, t1, t2, t3] w K = F149 P t0 t1 t2 t3 w K := by kernel_rfl
theorem F149_ok (t0 t1 t2 t3 : Value) (w : World) (K : Value → World → Prop) (h : F149 Tryz.prog t0 t1 t2 t3 w K) : callsK Tryz.prog 149 #[t0, t1, t2, t3] w K := calls_of_eq mixedM Tryz.func149 (F149_eq _ t0 t1 t2 t3 w K) h

/-- (mintmark/tags.Set).Get -/
def F151 (P : Program) (t0 t1 : Value) (w : World) (K : Value → World → Prop) : Prop :=
  kV P (Instr.box 143 t0) w fun v2 w =>
  kN P (callN (.func (.func 93) #[] #[]) #[t1]) w fun v6 w =>
  joinK (fun J0 : Value → World → Prop => gdK (yb v6) true (fun k => k t1 w) w fun v8 w =>
  gdK (yb v6) true (fun k => kV P (binV .quo 3 (.tmp 8) (.const (.int .i64 64)) v8 (.int .i64 64)) w k) w fun v9 w =>
  gdK (yb v6) true (fun k => kV P (Instr.indexAt 143 v2 v9) w k) w fun v10 w =>
  gdK (yb v6) true (fun k => kV P (Instr.loadAt 22 v10) w k) w fun v11 w =>
  gdK (yb v6) true (fun k => k t1 w) w fun v12 w =>
  gdK (yb v6) true (fun k => kV P (binV .rem 3 (.tmp 12) (.const (.int .i64 64)) v12 (.int .i64 64)) w k) w fun v13 w =>
  gdK (yb v6) true (fun k => kV P (binV .shr 22 (.tmp 11) (.tmp 13) v11 v13) w k) w fun v14 w =>
  gdK (yb v6) true (fun k => kV P (binV .and 22 (.tmp 14) (.const (.int .u64 1)) v14 (.int .u64 1)) w k) w fun v15 w =>
  gdK (yb v6) true (fun k => kV P (binV .neq 22 (.tmp 15) (.const (.int .u64 0)) v15 (.int .u64 0)) w k) w fun v16 w =>
  kN P (pickN v6 v16 (.bool false)) w fun v17_1 w =>
  J0 v17_1 w) fun v17 w =>
  K v17 w
theorem F151_eq (P : Program) (t0 t1 : Value) (w : World) (K : Value → World → Prop) : funE P ⟨[], [], []⟩ Tryz.f151 [t0, t1] w K = F151 P t0 t1 w K := by kernel_rfl
theorem F151_ok (t0 t1 : Value) (w : World) (K : Value → World → Prop) (h : F151 Tryz.prog t0 t1 w K) : callsK Tryz.prog 151 #[t0, t1] w K := calls_of_eq mixedM Tryz.func151 (F151_eq _ t0 t1 w K) h

end Go.Proofs.YtplfniijbeinmaaGreat
