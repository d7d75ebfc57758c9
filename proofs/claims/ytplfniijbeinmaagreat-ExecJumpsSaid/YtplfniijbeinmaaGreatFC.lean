/- The formulas of functions of this seat, each tied to its calls; conditions: none. -/
import Derived.Test.YtplfniijbeinmaaGreatProg
import Derived.Test.YtplfniijbeinmaaGreatFx
import Derived.KernelRfl
namespace Go.Proofs.YtplfniijbeinmaaGreat
open Go.Fx
set_option linter.unusedVariables false
set_option linter.constructorNameAsVariable false
set_option maxRecDepth 100000
theorem mixedC : Tryz.prog.follows .mixedOrders = true := by kernel_rfl
/-- mintmark/capab.Look -/
def F15 (P : Program) (t0 : Value) (w : World) (K : Value → World → Prop) : Prop :=
  kV P (Instr.box 24 t0) w fun v1 w =>
  kV P (Instr.alloc 28 true (.tuple #[])) w fun v2 w =>
  joinL (fun J0 =>
  drewK (fun w =>
  pV P (Instr.fieldAt 24 v1 1) fun v7 =>
  pV P (Instr.fieldAt 24 v1 2) fun v10 =>
  (kV P (Instr.loadAt 22 v7) w fun v8 w =>
  (kN P (callN (.func (.func 42) #[] #[]) #[v8]) w fun v9 w =>
  (kV P (Instr.loadAt 22 v10) w fun v11 w =>
  (kN P (callN (.func (.func 19) #[] #[]) #[v9, v11]) w fun v12 w =>
  pV P (Instr.extract v12 0) fun v13 =>
  pV P (Instr.extract v12 1) fun v14 =>
  kV P (Instr.alloc 26 true (.tuple #[])) w fun v4 w =>
  kU P (Instr.storeAt 26 v4 v13) w fun _ w =>
  J0 [v4, v14] w) ∧
  (kV P (Instr.alloc 26 true (.tuple #[])) w fun v4_1 w =>
  kN P (callN (.func (.func 19) #[] #[]) #[v9, v11]) w fun v12_1 w =>
  pV P (Instr.extract v12_1 0) fun v13_1 =>
  pV P (Instr.extract v12_1 1) fun v14_1 =>
  kU P (Instr.storeAt 26 v4_1 v13_1) w fun _ w =>
  J0 [v4_1, v14_1] w)) ∧
  (kV P (Instr.alloc 26 true (.tuple #[])) w fun v4_2 w =>
  kV P (Instr.loadAt 22 v10) w fun v11_1 w =>
  kN P (callN (.func (.func 19) #[] #[]) #[v9, v11_1]) w fun v12_2 w =>
  pV P (Instr.extract v12_2 0) fun v13_2 =>
  pV P (Instr.extract v12_2 1) fun v14_2 =>
  kU P (Instr.storeAt 26 v4_2 v13_2) w fun _ w =>
  J0 [v4_2, v14_2] w)) ∧
  (kV P (Instr.loadAt 22 v10) w fun v11_2 w =>
  (kN P (callN (.func (.func 42) #[] #[]) #[v8]) w fun v9_1 w =>
  (kN P (callN (.func (.func 19) #[] #[]) #[v9_1, v11_2]) w fun v12_3 w =>
  pV P (Instr.extract v12_3 0) fun v13_3 =>
  pV P (Instr.extract v12_3 1) fun v14_3 =>
  kV P (Instr.alloc 26 true (.tuple #[])) w fun v4_3 w =>
  kU P (Instr.storeAt 26 v4_3 v13_3) w fun _ w =>
  J0 [v4_3, v14_3] w) ∧
  (kV P (Instr.alloc 26 true (.tuple #[])) w fun v4_4 w =>
  kN P (callN (.func (.func 19) #[] #[]) #[v9_1, v11_2]) w fun v12_4 w =>
  pV P (Instr.extract v12_4 0) fun v13_4 =>
  pV P (Instr.extract v12_4 1) fun v14_4 =>
  kU P (Instr.storeAt 26 v4_4 v13_4) w fun _ w =>
  J0 [v4_4, v14_4] w)) ∧
  (kV P (Instr.alloc 26 true (.tuple #[])) w fun v4_5 w =>
  kN P (callN (.func (.func 42) #[] #[]) #[v8]) w fun v9_2 w =>
  kN P (callN (.func (.func 19) #[] #[]) #[v9_2, v11_2]) w fun v12_5 w =>
  pV P (Instr.extract v12_5 0) fun v13_5 =>
  pV P (Instr.extract v12_5 1) fun v14_5 =>
  kU P (Instr.storeAt 26 v4_5 v13_5) w fun _ w =>
  J0 [v4_5, v14_5] w)) ∧
  (kV P (Instr.alloc 26 true (.tuple #[])) w fun v4_6 w =>
  (kN P (callN (.func (.func 42) #[] #[]) #[v8]) w fun v9_3 w =>
  kV P (Instr.loadAt 22 v10) w fun v11_3 w =>
  kN P (callN (.func (.func 19) #[] #[]) #[v9_3, v11_3]) w fun v12_6 w =>
  pV P (Instr.extract v12_6 0) fun v13_6 =>
  pV P (Instr.extract v12_6 1) fun v14_6 =>
  kU P (Instr.storeAt 26 v4_6 v13_6) w fun _ w =>
  J0 [v4_6, v14_6] w) ∧
  (kV P (Instr.loadAt 22 v10) w fun v11_4 w =>
  kN P (callN (.func (.func 42) #[] #[]) #[v8]) w fun v9_4 w =>
  kN P (callN (.func (.func 19) #[] #[]) #[v9_4, v11_4]) w fun v12_7 w =>
  pV P (Instr.extract v12_7 0) fun v13_7 =>
  pV P (Instr.extract v12_7 1) fun v14_7 =>
  kU P (Instr.storeAt 26 v4_6 v13_7) w fun _ w =>
  J0 [v4_6, v14_7] w))) ∧
  (kV P (Instr.loadAt 22 v10) w fun v11_5 w =>
  (kV P (Instr.loadAt 22 v7) w fun v8_1 w =>
  (kN P (callN (.func (.func 42) #[] #[]) #[v8_1]) w fun v9_5 w =>
  (kN P (callN (.func (.func 19) #[] #[]) #[v9_5, v11_5]) w fun v12_8 w =>
  pV P (Instr.extract v12_8 0) fun v13_8 =>
  pV P (Instr.extract v12_8 1) fun v14_8 =>
  kV P (Instr.alloc 26 true (.tuple #[])) w fun v4_7 w =>
  kU P (Instr.storeAt 26 v4_7 v13_8) w fun _ w =>
  J0 [v4_7, v14_8] w) ∧
  (kV P (Instr.alloc 26 true (.tuple #[])) w fun v4_8 w =>
  kN P (callN (.func (.func 19) #[] #[]) #[v9_5, v11_5]) w fun v12_9 w =>
  pV P (Instr.extract v12_9 0) fun v13_9 =>
  pV P (Instr.extract v12_9 1) fun v14_9 =>
  kU P (Instr.storeAt 26 v4_8 v13_9) w fun _ w =>
  J0 [v4_8, v14_9] w)) ∧
  (kV P (Instr.alloc 26 true (.tuple #[])) w fun v4_9 w =>
  kN P (callN (.func (.func 42) #[] #[]) #[v8_1]) w fun v9_6 w =>
  kN P (callN (.func (.func 19) #[] #[]) #[v9_6, v11_5]) w fun v12_10 w =>
  pV P (Instr.extract v12_10 0) fun v13_10 =>
  pV P (Instr.extract v12_10 1) fun v14_10 =>
  kU P (Instr.storeAt 26 v4_9 v13_10) w fun _ w =>
  J0 [v4_9, v14_10] w)) ∧
  (kV P (Instr.alloc 26 true (.tuple #[])) w fun v4_10 w =>
  kV P (Instr.loadAt 22 v7) w fun v8_2 w =>
  kN P (callN (.func (.func 42) #[] #[]) #[v8_2]) w fun v9_7 w =>
  kN P (callN (.func (.func 19) #[] #[]) #[v9_7, v11_5]) w fun v12_11 w =>
  pV P (Instr.extract v12_11 0) fun v13_11 =>
  pV P (Instr.extract v12_11 1) fun v14_11 =>
  kU P (Instr.storeAt 26 v4_10 v13_11) w fun _ w =>
  J0 [v4_10, v14_11] w)) ∧
  (kV P (Instr.alloc 26 true (.tuple #[])) w fun v4_11 w =>
  (kV P (Instr.loadAt 22 v7) w fun v8_3 w =>
  (kN P (callN (.func (.func 42) #[] #[]) #[v8_3]) w fun v9_8 w =>
  kV P (Instr.loadAt 22 v10) w fun v11_6 w =>
  kN P (callN (.func (.func 19) #[] #[]) #[v9_8, v11_6]) w fun v12_12 w =>
  pV P (Instr.extract v12_12 0) fun v13_12 =>
  pV P (Instr.extract v12_12 1) fun v14_12 =>
  kU P (Instr.storeAt 26 v4_11 v13_12) w fun _ w =>
  J0 [v4_11, v14_12] w) ∧
  (kV P (Instr.loadAt 22 v10) w fun v11_7 w =>
  kN P (callN (.func (.func 42) #[] #[]) #[v8_3]) w fun v9_9 w =>
  kN P (callN (.func (.func 19) #[] #[]) #[v9_9, v11_7]) w fun v12_13 w =>
  pV P (Instr.extract v12_13 0) fun v13_13 =>
  pV P (Instr.extract v12_13 1) fun v14_13 =>
  kU P (Instr.storeAt 26 v4_11 v13_13) w fun _ w =>
  J0 [v4_11, v14_13] w)) ∧
  (kV P (Instr.loadAt 22 v10) w fun v11_8 w =>
  kV P (Instr.loadAt 22 v7) w fun v8_4 w =>
  kN P (callN (.func (.func 42) #[] #[]) #[v8_4]) w fun v9_10 w =>
  kN P (callN (.func (.func 19) #[] #[]) #[v9_10, v11_8]) w fun v12_14 w =>
  pV P (Instr.extract v12_14 0) fun v13_14 =>
  pV P (Instr.extract v12_14 1) fun v14_14 =>
  kU P (Instr.storeAt 26 v4_11 v13_14) w fun _ w =>
  J0 [v4_11, v14_14] w))) w) fun s0 w => ∀ _ : Nat → Value,
  drewK (fun w =>
  pV P (Instr.fieldAt 24 v1 1) fun v16 =>
  pV P (Instr.fieldAt 24 v1 1) fun v19 =>
  (kV P (Instr.loadAt 26 (s0.getD 0 undef)) w fun v15 w =>
  (kV P (Instr.loadAt 22 v16) w fun v17 w =>
  (kN P (callN (.func (.func 43) #[] #[]) #[v17, (.int .i64 32), (.int .i64 9)]) w fun v18 w =>
  kV P (Instr.loadAt 22 v19) w fun v20 w =>
  kN P (callN (.func (.func 43) #[] #[]) #[v20, (.int .i64 48), (.int .i64 12)]) w fun v21 w =>
  pV P (Instr.build 28 #[(0, v15), (1, v18), (2, v21)]) fun v22 =>
  kU P (Instr.storeAt 28 v2 v22) w fun _ w =>
  retV P 28 v2 w fun r2 =>
  K (.tuple #[r2, (s0.getD 1 undef)]) w) ∧
  (kV P (Instr.loadAt 22 v19) w fun v20_1 w =>
  kN P (callN (.func (.func 43) #[] #[]) #[v17, (.int .i64 32), (.int .i64 9)]) w fun v18_1 w =>
  kN P (callN (.func (.func 43) #[] #[]) #[v20_1, (.int .i64 48), (.int .i64 12)]) w fun v21_1 w =>
  pV P (Instr.build 28 #[(0, v15), (1, v18_1), (2, v21_1)]) fun v22_1 =>
  kU P (Instr.storeAt 28 v2 v22_1) w fun _ w =>
  retV P 28 v2 w fun r3 =>
  K (.tuple #[r3, (s0.getD 1 undef)]) w)) ∧
  (kV P (Instr.loadAt 22 v19) w fun v20_2 w =>
  kV P (Instr.loadAt 22 v16) w fun v17_1 w =>
  kN P (callN (.func (.func 43) #[] #[]) #[v17_1, (.int .i64 32), (.int .i64 9)]) w fun v18_2 w =>
  kN P (callN (.func (.func 43) #[] #[]) #[v20_2, (.int .i64 48), (.int .i64 12)]) w fun v21_2 w =>
  pV P (Instr.build 28 #[(0, v15), (1, v18_2), (2, v21_2)]) fun v22_2 =>
  kU P (Instr.storeAt 28 v2 v22_2) w fun _ w =>
  retV P 28 v2 w fun r4 =>
  K (.tuple #[r4, (s0.getD 1 undef)]) w)) ∧
  (kV P (Instr.loadAt 22 v16) w fun v17_2 w =>
  (kV P (Instr.loadAt 26 (s0.getD 0 undef)) w fun v15_1 w =>
  (kN P (callN (.func (.func 43) #[] #[]) #[v17_2, (.int .i64 32), (.int .i64 9)]) w fun v18_3 w =>
  kV P (Instr.loadAt 22 v19) w fun v20_3 w =>
  kN P (callN (.func (.func 43) #[] #[]) #[v20_3, (.int .i64 48), (.int .i64 12)]) w fun v21_3 w =>
  pV P (Instr.build 28 #[(0, v15_1), (1, v18_3), (2, v21_3)]) fun v22_3 =>
  kU P (Instr.storeAt 28 v2 v22_3) w fun _ w =>
  retV P 28 v2 w fun r5 =>
  K (.tuple #[r5, (s0.getD 1 undef)]) w) ∧
  (kV P (Instr.loadAt 22 v19) w fun v20_4 w =>
  kN P (callN (.func (.func 43) #[] #[]) #[v17_2, (.int .i64 32), (.int .i64 9)]) w fun v18_4 w =>
  kN P (callN (.func (.func 43) #[] #[]) #[v20_4, (.int .i64 48), (.int .i64 12)]) w fun v21_4 w =>
  pV P (Instr.build 28 #[(0, v15_1), (1, v18_4), (2, v21_4)]) fun v22_4 =>
  kU P (Instr.storeAt 28 v2 v22_4) w fun _ w =>
  retV P 28 v2 w fun r6 =>
  K (.tuple #[r6, (s0.getD 1 undef)]) w)) ∧
  (kN P (callN (.func (.func 43) #[] #[]) #[v17_2, (.int .i64 32), (.int .i64 9)]) w fun v18_5 w =>
  (kV P (Instr.loadAt 26 (s0.getD 0 undef)) w fun v15_2 w =>
  kV P (Instr.loadAt 22 v19) w fun v20_5 w =>
  kN P (callN (.func (.func 43) #[] #[]) #[v20_5, (.int .i64 48), (.int .i64 12)]) w fun v21_5 w =>
  pV P (Instr.build 28 #[(0, v15_2), (1, v18_5), (2, v21_5)]) fun v22_5 =>
  kU P (Instr.storeAt 28 v2 v22_5) w fun _ w =>
  retV P 28 v2 w fun r7 =>
  K (.tuple #[r7, (s0.getD 1 undef)]) w) ∧
  (kV P (Instr.loadAt 22 v19) w fun v20_6 w =>
  (kV P (Instr.loadAt 26 (s0.getD 0 undef)) w fun v15_3 w =>
  kN P (callN (.func (.func 43) #[] #[]) #[v20_6, (.int .i64 48), (.int .i64 12)]) w fun v21_6 w =>
  pV P (Instr.build 28 #[(0, v15_3), (1, v18_5), (2, v21_6)]) fun v22_6 =>
  kU P (Instr.storeAt 28 v2 v22_6) w fun _ w =>
  retV P 28 v2 w fun r8 =>
  K (.tuple #[r8, (s0.getD 1 undef)]) w) ∧
  (kN P (callN (.func (.func 43) #[] #[]) #[v20_6, (.int .i64 48), (.int .i64 12)]) w fun v21_7 w =>
  kV P (Instr.loadAt 26 (s0.getD 0 undef)) w fun v15_4 w =>
  pV P (Instr.build 28 #[(0, v15_4), (1, v18_5), (2, v21_7)]) fun v22_7 =>
  kU P (Instr.storeAt 28 v2 v22_7) w fun _ w =>
  retV P 28 v2 w fun r9 =>
  K (.tuple #[r9, (s0.getD 1 undef)]) w))) ∧
  (kV P (Instr.loadAt 22 v19) w fun v20_7 w =>
  (kV P (Instr.loadAt 26 (s0.getD 0 undef)) w fun v15_5 w =>
  kN P (callN (.func (.func 43) #[] #[]) #[v17_2, (.int .i64 32), (.int .i64 9)]) w fun v18_6 w =>
  kN P (callN (.func (.func 43) #[] #[]) #[v20_7, (.int .i64 48), (.int .i64 12)]) w fun v21_8 w =>
  pV P (Instr.build 28 #[(0, v15_5), (1, v18_6), (2, v21_8)]) fun v22_8 =>
  kU P (Instr.storeAt 28 v2 v22_8) w fun _ w =>
  retV P 28 v2 w fun r10 =>
  K (.tuple #[r10, (s0.getD 1 undef)]) w) ∧
  (kN P (callN (.func (.func 43) #[] #[]) #[v17_2, (.int .i64 32), (.int .i64 9)]) w fun v18_7 w =>
  (kV P (Instr.loadAt 26 (s0.getD 0 undef)) w fun v15_6 w =>
  kN P (callN (.func (.func 43) #[] #[]) #[v20_7, (.int .i64 48), (.int .i64 12)]) w fun v21_9 w =>
  pV P (Instr.build 28 #[(0, v15_6), (1, v18_7), (2, v21_9)]) fun v22_9 =>
  kU P (Instr.storeAt 28 v2 v22_9) w fun _ w =>
  retV P 28 v2 w fun r11 =>
  K (.tuple #[r11, (s0.getD 1 undef)]) w) ∧
  (kN P (callN (.func (.func 43) #[] #[]) #[v20_7, (.int .i64 48), (.int .i64 12)]) w fun v21_10 w =>
  kV P (Instr.loadAt 26 (s0.getD 0 undef)) w fun v15_7 w =>
  pV P (Instr.build 28 #[(0, v15_7), (1, v18_7), (2, v21_10)]) fun v22_10 =>
  kU P (Instr.storeAt 28 v2 v22_10) w fun _ w =>
  retV P 28 v2 w fun r12 =>
  K (.tuple #[r12, (s0.getD 1 undef)]) w)))) ∧
  (kV P (Instr.loadAt 22 v19) w fun v20_8 w =>
  (kV P (Instr.loadAt 26 (s0.getD 0 undef)) w fun v15_8 w =>
  kV P (Instr.loadAt 22 v16) w fun v17_3 w =>
  kN P (callN (.func (.func 43) #[] #[]) #[v17_3, (.int .i64 32), (.int .i64 9)]) w fun v18_8 w =>
  kN P (callN (.func (.func 43) #[] #[]) #[v20_8, (.int .i64 48), (.int .i64 12)]) w fun v21_11 w =>
  pV P (Instr.build 28 #[(0, v15_8), (1, v18_8), (2, v21_11)]) fun v22_11 =>
  kU P (Instr.storeAt 28 v2 v22_11) w fun _ w =>
  retV P 28 v2 w fun r13 =>
  K (.tuple #[r13, (s0.getD 1 undef)]) w) ∧
  (kV P (Instr.loadAt 22 v16) w fun v17_4 w =>
  (kV P (Instr.loadAt 26 (s0.getD 0 undef)) w fun v15_9 w =>
  kN P (callN (.func (.func 43) #[] #[]) #[v17_4, (.int .i64 32), (.int .i64 9)]) w fun v18_9 w =>
  kN P (callN (.func (.func 43) #[] #[]) #[v20_8, (.int .i64 48), (.int .i64 12)]) w fun v21_12 w =>
  pV P (Instr.build 28 #[(0, v15_9), (1, v18_9), (2, v21_12)]) fun v22_12 =>
  kU P (Instr.storeAt 28 v2 v22_12) w fun _ w =>
  retV P 28 v2 w fun r14 =>
  K (.tuple #[r14, (s0.getD 1 undef)]) w) ∧
  (kN P (callN (.func (.func 43) #[] #[]) #[v17_4, (.int .i64 32), (.int .i64 9)]) w fun v18_10 w =>
  (kV P (Instr.loadAt 26 (s0.getD 0 undef)) w fun v15_10 w =>
  kN P (callN (.func (.func 43) #[] #[]) #[v20_8, (.int .i64 48), (.int .i64 12)]) w fun v21_13 w =>
  pV P (Instr.build 28 #[(0, v15_10), (1, v18_10), (2, v21_13)]) fun v22_13 =>
  kU P (Instr.storeAt 28 v2 v22_13) w fun _ w =>
  retV P 28 v2 w fun r15 =>
  K (.tuple #[r15, (s0.getD 1 undef)]) w) ∧
  (kN P (callN (.func (.func 43) #[] #[]) #[v20_8, (.int .i64 48), (.int .i64 12)]) w fun v21_14 w =>
  kV P (Instr.loadAt 26 (s0.getD 0 undef)) w fun v15_11 w =>
  pV P (Instr.build 28 #[(0, v15_11), (1, v18_10), (2, v21_14)]) fun v22_14 =>
  kU P (Instr.storeAt 28 v2 v22_14) w fun _ w =>
  retV P 28 v2 w fun r16 =>
  K (.tuple #[r16, (s0.getD 1 undef)]) w))))) w
theorem F15_eq (P : Program) (t0 : Value) (w : World) (K : Value → World → Prop) : funE P ⟨[(1, 999), (2, 999)], [], [(2, [4, 5])]⟩ Tryz.f15 [t0] w K = F15 P t0 w K := by kernel_rfl
theorem F15_ok (t0 : Value) (w : World) (K : Value → World → Prop) (h : F15 Tryz.prog t0 w K) : callsK Tryz.prog 15 #[t0] w K := calls_of_eq mixedC Tryz.func15 (F15_eq _ t0 w K) h

/-- mintmark/bounds.Decode -/
def F19 (P : Program) (t0 t1 : Value) (w : World) (K : Value → World → Prop) : Prop :=
  kV P (Instr.box 69 t0) w fun v2 w =>
  kV P (Instr.alloc 26 true (.tuple #[])) w fun v4 w =>
  joinL (fun J0 =>
  drewK (fun w =>
  (kV P (Instr.loadAt 69 v2) w fun v11 w =>
  kV P (Instr.loadAt 69 v2) w fun v12 w =>
  kN P (callN (.func (.func 50) #[] #[]) #[v12]) w fun v13 w =>
  kN P (callN (.func (.func 42) #[] #[]) #[v13]) w fun v14 w =>
  pV P (binV .neq 69 (.tmp 11) (.tmp 14) v11 v14) fun v15 =>
  gdP (yb v15) false (fun k => pV P (Instr.fieldAt 69 v2 2) k) fun v17 =>
  gdK (yb v15) false (fun k => kV P (Instr.loadAt 22 v17) w k) w fun v18 w =>
  gdP (yb v15) false (fun k => pV P (binV .gtr 22 (.tmp 18) (.const (.int .u64 37)) v18 (.int .u64 37)) k) fun v19 =>
  pN P (pickN v15 (.bool true) v19) fun v20 =>
  gdP (yb v20) false (fun k => k t1) fun v22 =>
  gdP (yb v20) false (fun k => pV P (binV .geq 22 (.tmp 22) (.const (.int .u64 281474976710656)) v22 (.int .u64 281474976710656)) k) fun v23 =>
  pN P (pickN v20 (.bool true) v23) fun v24 =>
  J0 [v24] w) ∧
  (kV P (Instr.loadAt 69 v2) w fun v12_1 w =>
  (kV P (Instr.loadAt 69 v2) w fun v11_1 w =>
  kN P (callN (.func (.func 50) #[] #[]) #[v12_1]) w fun v13_1 w =>
  kN P (callN (.func (.func 42) #[] #[]) #[v13_1]) w fun v14_1 w =>
  pV P (binV .neq 69 (.tmp 11) (.tmp 14) v11_1 v14_1) fun v15_1 =>
  gdP (yb v15_1) false (fun k => pV P (Instr.fieldAt 69 v2 2) k) fun v17_1 =>
  gdK (yb v15_1) false (fun k => kV P (Instr.loadAt 22 v17_1) w k) w fun v18_1 w =>
  gdP (yb v15_1) false (fun k => pV P (binV .gtr 22 (.tmp 18) (.const (.int .u64 37)) v18_1 (.int .u64 37)) k) fun v19_1 =>
  pN P (pickN v15_1 (.bool true) v19_1) fun v20_1 =>
  gdP (yb v20_1) false (fun k => k t1) fun v22_1 =>
  gdP (yb v20_1) false (fun k => pV P (binV .geq 22 (.tmp 22) (.const (.int .u64 281474976710656)) v22_1 (.int .u64 281474976710656)) k) fun v23_1 =>
  pN P (pickN v20_1 (.bool true) v23_1) fun v24_1 =>
  J0 [v24_1] w) ∧
  (kN P (callN (.func (.func 50) #[] #[]) #[v12_1]) w fun v13_2 w =>
  (kV P (Instr.loadAt 69 v2) w fun v11_2 w =>
  kN P (callN (.func (.func 42) #[] #[]) #[v13_2]) w fun v14_2 w =>
  pV P (binV .neq 69 (.tmp 11) (.tmp 14) v11_2 v14_2) fun v15_2 =>
  gdP (yb v15_2) false (fun k => pV P (Instr.fieldAt 69 v2 2) k) fun v17_2 =>
  gdK (yb v15_2) false (fun k => kV P (Instr.loadAt 22 v17_2) w k) w fun v18_2 w =>
  gdP (yb v15_2) false (fun k => pV P (binV .gtr 22 (.tmp 18) (.const (.int .u64 37)) v18_2 (.int .u64 37)) k) fun v19_2 =>
  pN P (pickN v15_2 (.bool true) v19_2) fun v20_2 =>
  gdP (yb v20_2) false (fun k => k t1) fun v22_2 =>
  gdP (yb v20_2) false (fun k => pV P (binV .geq 22 (.tmp 22) (.const (.int .u64 281474976710656)) v22_2 (.int .u64 281474976710656)) k) fun v23_2 =>
  pN P (pickN v20_2 (.bool true) v23_2) fun v24_2 =>
  J0 [v24_2] w) ∧
  (kN P (callN (.func (.func 42) #[] #[]) #[v13_2]) w fun v14_3 w =>
  kV P (Instr.loadAt 69 v2) w fun v11_3 w =>
  pV P (binV .neq 69 (.tmp 11) (.tmp 14) v11_3 v14_3) fun v15_3 =>
  gdP (yb v15_3) false (fun k => pV P (Instr.fieldAt 69 v2 2) k) fun v17_3 =>
  gdK (yb v15_3) false (fun k => kV P (Instr.loadAt 22 v17_3) w k) w fun v18_3 w =>
  gdP (yb v15_3) false (fun k => pV P (binV .gtr 22 (.tmp 18) (.const (.int .u64 37)) v18_3 (.int .u64 37)) k) fun v19_3 =>
  pN P (pickN v15_3 (.bool true) v19_3) fun v20_3 =>
  gdP (yb v20_3) false (fun k => k t1) fun v22_3 =>
  gdP (yb v20_3) false (fun k => pV P (binV .geq 22 (.tmp 22) (.const (.int .u64 281474976710656)) v22_3 (.int .u64 281474976710656)) k) fun v23_3 =>
  pN P (pickN v20_3 (.bool true) v23_3) fun v24_3 =>
  J0 [v24_3] w)))) w) fun s0 w => ∀ _ : Nat → Value,
  condK (s0.getD 0 undef)
  (kV P (Instr.build 26 #[]) w fun v25 w =>
  kU P (Instr.storeAt 26 v4 v25) w fun _ w =>
  retV P 26 v4 w fun r2 =>
  K (.tuple #[r2, (.bool false)]) w)
  (kV P (Instr.fieldAt 69 v2 2) w fun v26 w =>
  kV P (Instr.loadAt 22 v26) w fun v27 w =>
  kN P (callN (.func (.func 49) #[] #[]) #[v27]) w fun v28 w =>
  kV P (Instr.fieldAt 69 v2 1) w fun v29 w =>
  kV P (Instr.loadAt 22 v29) w fun v30 w =>
  kV P (Instr.fieldAt 69 v2 0) w fun v31 w =>
  kV P (Instr.loadAt 22 v31) w fun v32 w =>
  kV P (binV .sub 22 (.tmp 30) (.tmp 32) v30 v32) w fun v33 w =>
  kV P (binV .and 22 (.tmp 33) (.const (.int .u64 4095)) v33 (.int .u64 4095)) w fun v34 w =>
  joinL (fun J3 =>
  kV P (Instr.fieldAt 69 v2 2) w fun v35 w =>
  kV P (Instr.loadAt 22 v35) w fun v36 w =>
  kV P (binV .gtr 22 (.tmp 36) (.const (.int .u64 0)) v36 (.int .u64 0)) w fun v37 w =>
  condK v37
  (kV P (binV .or 22 (.tmp 38) (.const (.int .u64 4096)) v34 (.int .u64 4096)) w fun v39 w =>
  J3 [v39] w)
  (J3 [v34] w)) fun s3 w => ∀ _ : Nat → Value,
  kV P (binV .shr 22 (.tmp 40) (.tmp 41) t1 v28) w fun v42 w =>
  kV P (Instr.fieldAt 69 v2 0) w fun v44 w =>
  kV P (Instr.loadAt 22 v44) w fun v45 w =>
  kV P (binV .sub 22 (.tmp 43) (.tmp 45) v42 v45) w fun v46 w =>
  kV P (binV .add 22 (.tmp 46) (.const (.int .u64 4096)) v46 (.int .u64 4096)) w fun v47 w =>
  kV P (binV .and 22 (.tmp 47) (.const (.int .u64 16383)) v47 (.int .u64 16383)) w fun v48 w =>
  kV P (binV .add 22 (.tmp 49) (.const (.int .u64 4096)) v42 (.int .u64 4096)) w fun v50 w =>
  kV P (binV .lss 22 (.tmp 50) (.tmp 51) v50 v48) w fun v52 w =>
  condK v52
  (kV P (Instr.build 26 #[]) w fun v53 w =>
  kU P (Instr.storeAt 26 v4 v53) w fun _ w =>
  retV P 26 v4 w fun r5 =>
  K (.tuple #[r5, (.bool false)]) w)
  (kV P (binV .add 22 (.tmp 54) (.const (.int .u64 4096)) v42 (.int .u64 4096)) w fun v55 w =>
  kV P (binV .sub 22 (.tmp 55) (.tmp 56) v55 v48) w fun v57 w =>
  kV P (binV .add 22 (.tmp 58) (.tmp 59) v57 (s3.getD 0 undef)) w fun v60 w =>
  kV P (binV .shr 22 (.const (.int .u64 281474976710656)) (.tmp 61) (.int .u64 281474976710656) v28) w fun v62 w =>
  kV P (binV .gtr 22 (.tmp 60) (.tmp 62) v60 v62) w fun v63 w =>
  condK v63
  (kV P (Instr.build 26 #[]) w fun v64 w =>
  kU P (Instr.storeAt 26 v4 v64) w fun _ w =>
  retV P 26 v4 w fun r6 =>
  K (.tuple #[r6, (.bool false)]) w)
  (drewK (fun w =>
  sV P (binV .shl 22 (.tmp 65) (.tmp 66) v57 v28) w fun v67 =>
  sV P (binV .add 22 (.tmp 68) (.tmp 69) v57 (s3.getD 0 undef)) w fun v70 =>
  sV P (binV .shl 22 (.tmp 70) (.tmp 71) v70 v28) w fun v72 =>
  kV P (Instr.build 26 #[(0, v67), (1, v72)]) w fun v73 w =>
  kU P (Instr.storeAt 26 v4 v73) w fun _ w =>
  retV P 26 v4 w fun r7 =>
  K (.tuple #[r7, (.bool true)]) w) w)))
theorem F19_eq (P : Program) (t0 t1 : Value) (w : World) (K : Value → World → Prop) : funE P ⟨[(1, 999), (14, 8)], [], [(2, [24]), (7, [7])]⟩ Tryz.f19 [t0, t1] w K = F19 P t0 t1 w K := by kernel_rfl
theorem F19_ok (t0 t1 : Value) (w : World) (K : Value → World → Prop) (h : F19 Tryz.prog t0 t1 w K) : callsK Tryz.prog 19 #[t0, t1] w K := calls_of_eq mixedC Tryz.func19 (F19_eq _ t0 t1 w K) h

/-- mintmark/field.Put -/
def F41 (P : Program) (t0 t1 t2 t3 : Value) (w : World) (K : Value → World → Prop) : Prop :=
  kN P (callN (.func (.func 84) #[] #[]) #[t1, t2]) w fun v12 w =>
  kV P (Op.unary .not v12) w fun v13 w =>
  condK v13
  (K t0 w)
  (kN P (callN (.func (.func 81) #[] #[]) #[t2]) w fun v16 w =>
  drewK (fun w =>
  sV P (binV .shl 22 (.tmp 18) (.tmp 19) v16 t1) w fun v20 =>
  sV P (binV .andNot 22 (.tmp 17) (.tmp 20) t0 v20) w fun v21 =>
  sV P (binV .and 22 (.tmp 22) (.tmp 23) t3 v16) w fun v24 =>
  sV P (binV .shl 22 (.tmp 24) (.tmp 25) v24 t1) w fun v26 =>
  sV P (binV .or 22 (.tmp 21) (.tmp 26) v21 v26) w fun v27 =>
  K v27 w) w)
theorem F41_eq (P : Program) (t0 t1 t2 t3 : Value) (w : World) (K : Value → World → Prop) : funE P ⟨[], [], []⟩ Tryz.f41 [t0, t1, t2, t3] w K = F41 P t0 t1 t2 t3 w K := by kernel_rfl
theorem F41_ok (t0 t1 t2 t3 : Value) (w : World) (K : Value → World → Prop) (h : F41 Tryz.prog t0 t1 t2 t3 w K) : callsK Tryz.prog 41 #[t0, t1, t2, t3] w K := calls_of_eq mixedC Tryz.func41 (F41_eq _ t0 t1 t2 t3 w K) h

/-- mintmark/bounds.Of -/
def F42 (P : Program) (t0 : Value) (w : World) (K : Value → World → Prop) : Prop :=
  kV P (Instr.alloc 69 true (.tuple #[])) w fun v2 w =>
  kV P (Instr.alloc 173 true (.tuple #[])) w fun v3 w =>
  kN P (callN (.func (.func 85) #[] #[]) #[]) w fun v7 w =>
  loopT (fun R0 s0 w => ∀ _ : Nat → Value,
  kV P (binV .lss 3 (.tmp 8) (.const (.int .i64 3)) (s0.getD 1 undef) (.int .i64 3)) w fun v9 w =>
  condK v9
  (kV P (Instr.index 174 v7 (s0.getD 1 undef)) w fun v11 w =>
  kN P (callN (.func (.func 43) #[] #[]) #[t0, (s0.getD 0 undef), v11]) w fun v16 w =>
  kV P (Instr.indexAt 173 v3 (s0.getD 1 undef)) w fun v17 w =>
  kU P (Instr.storeAt 22 v17 v16) w fun _ w =>
  kV P (binV .add 3 (.tmp 18) (.tmp 19) (s0.getD 0 undef) v11) w fun v20 w =>
  kV P (binV .add 3 (.tmp 8) (.const (.int .i64 1)) (s0.getD 1 undef) (.int .i64 1)) w fun v21 w =>
  R0 [v20, v21] w)
  (kV P (Instr.indexAt 173 v3 (.int .i64 0)) w fun v22 w =>
  kV P (Instr.loadAt 22 v22) w fun v23 w =>
  kV P (Instr.indexAt 173 v3 (.int .i64 1)) w fun v24 w =>
  kV P (Instr.loadAt 22 v24) w fun v25 w =>
  kV P (Instr.indexAt 173 v3 (.int .i64 2)) w fun v26 w =>
  kV P (Instr.loadAt 22 v26) w fun v27 w =>
  kV P (Instr.build 69 #[(0, v23), (1, v25), (2, v27)]) w fun v28 w =>
  kU P (Instr.storeAt 69 v2 v28) w fun _ w =>
  retV P 69 v2 w fun r2 =>
  K r2 w)) [(.int .i64 0), (.int .i64 0)] w
theorem F42_eq (P : Program) (t0 : Value) (w : World) (K : Value → World → Prop) : funE P ⟨[], [(4, [4, 8])], []⟩ Tryz.f42 [t0] w K = F42 P t0 w K := by kernel_rfl
theorem F42_ok (t0 : Value) (w : World) (K : Value → World → Prop) (h : F42 Tryz.prog t0 w K) : callsK Tryz.prog 42 #[t0] w K := calls_of_eq mixedC Tryz.func42 (F42_eq _ t0 w K) h

/-- mintmark/field.Get -/
def F43 (P : Program) (t0 t1 t2 : Value) (w : World) (K : Value → World → Prop) : Prop :=
  kN P (callN (.func (.func 84) #[] #[]) #[t1, t2]) w fun v9 w =>
  kV P (Op.unary .not v9) w fun v10 w =>
  condK v10
  (K (.int .u64 0) w)
  (drewK (fun w =>
  pV P (binV .shr 22 (.tmp 11) (.tmp 12) t0 t1) fun v13 =>
  kN P (callN (.func (.func 81) #[] #[]) #[t2]) w fun v15 w =>
  pV P (binV .and 22 (.tmp 13) (.tmp 15) v13 v15) fun v16 =>
  K v16 w) w)
theorem F43_eq (P : Program) (t0 t1 t2 : Value) (w : World) (K : Value → World → Prop) : funE P ⟨[(3, 999)], [], []⟩ Tryz.f43 [t0, t1, t2] w K = F43 P t0 t1 t2 w K := by kernel_rfl
theorem F43_ok (t0 t1 t2 : Value) (w : World) (K : Value → World → Prop) (h : F43 Tryz.prog t0 t1 t2 w K) : callsK Tryz.prog 43 #[t0, t1, t2] w K := calls_of_eq mixedC Tryz.func43 (F43_eq _ t0 t1 t2 w K) h

/-- mintmark/bounds.shift -/
def F49 (P : Program) (t0 : Value) (w : World) (K : Value → World → Prop) : Prop :=
  kV P (convert 22 3 t0) w fun v4 w =>
  kV P (Builtin.max_ #[3, 3] 3 #[v4, (.int .i64 1)]) w fun v5 w =>
  kV P (binV .sub 3 (.tmp 5) (.const (.int .i64 1)) v5 (.int .i64 1)) w fun v6 w =>
  K v6 w
theorem F49_eq (P : Program) (t0 : Value) (w : World) (K : Value → World → Prop) : funE P ⟨[], [], []⟩ Tryz.f49 [t0] w K = F49 P t0 w K := by kernel_rfl
theorem F49_ok (t0 : Value) (w : World) (K : Value → World → Prop) (h : F49 Tryz.prog t0 w K) : callsK Tryz.prog 49 #[t0] w K := calls_of_eq mixedC Tryz.func49 (F49_eq _ t0 w K) h

/-- mintmark/bounds.Word -/
def F50 (P : Program) (t0 : Value) (w : World) (K : Value → World → Prop) : Prop :=
  kV P (Instr.box 69 t0) w fun v1 w =>
  kV P (Instr.fieldAt 69 v1 0) w fun v8 w =>
  kV P (Instr.loadAt 22 v8) w fun v9 w =>
  kV P (Instr.fieldAt 69 v1 1) w fun v10 w =>
  kV P (Instr.loadAt 22 v10) w fun v11 w =>
  kV P (Instr.fieldAt 69 v1 2) w fun v12 w =>
  kV P (Instr.loadAt 22 v12) w fun v13 w =>
  kV P (Instr.build 173 #[(0, v9), (1, v11), (2, v13)]) w fun v14 w =>
  kV P (Instr.alloc 173 true (.tuple #[])) w fun v5 w =>
  kU P (Instr.storeAt 173 v5 v14) w fun _ w =>
  kN P (callN (.func (.func 85) #[] #[]) #[]) w fun v15 w =>
  loopT (fun R0 s0 w => ∀ _ : Nat → Value,
  kV P (binV .lss 3 (.tmp 16) (.const (.int .i64 3)) (s0.getD 2 undef) (.int .i64 3)) w fun v17 w =>
  condK v17
  (kV P (Instr.index 174 v15 (s0.getD 2 undef)) w fun v19 w =>
  kV P (Instr.indexAt 173 v5 (s0.getD 2 undef)) w fun v24 w =>
  kV P (Instr.loadAt 22 v24) w fun v25 w =>
  kN P (callN (.func (.func 41) #[] #[]) #[(s0.getD 0 undef), (s0.getD 1 undef), v19, v25]) w fun v26 w =>
  kV P (binV .add 3 (.tmp 27) (.tmp 28) (s0.getD 1 undef) v19) w fun v29 w =>
  kV P (binV .add 3 (.tmp 16) (.const (.int .i64 1)) (s0.getD 2 undef) (.int .i64 1)) w fun v30 w =>
  R0 [v26, v29, v30] w)
  (K (s0.getD 0 undef) w)) [(.int .u64 0), (.int .i64 0), (.int .i64 0)] w
theorem F50_eq (P : Program) (t0 : Value) (w : World) (K : Value → World → Prop) : funE P ⟨[], [(4, [4, 3, 16])], []⟩ Tryz.f50 [t0] w K = F50 P t0 w K := by kernel_rfl
theorem F50_ok (t0 : Value) (w : World) (K : Value → World → Prop) (h : F50 Tryz.prog t0 w K) : callsK Tryz.prog 50 #[t0] w K := calls_of_eq mixedC Tryz.func50 (F50_eq _ t0 w K) h

/-- mintmark/field.Mask -/
def F81 (P : Program) (t0 : Value) (w : World) (K : Value → World → Prop) : Prop :=
  kV P (binV .lss 3 (.tmp 4) (.const (.int .i64 1)) t0 (.int .i64 1)) w fun v5 w =>
  condK v5
  (K (.int .u64 0) w)
  (kV P (binV .geq 3 (.tmp 7) (.const (.int .i64 64)) t0 (.int .i64 64)) w fun v8 w =>
  condK v8
  (K (.int .u64 18446744073709551615) w)
  (kV P (binV .shl 22 (.const (.int .u64 1)) (.tmp 9) (.int .u64 1) t0) w fun v10 w =>
  kV P (binV .sub 22 (.tmp 10) (.const (.int .u64 1)) v10 (.int .u64 1)) w fun v11 w =>
  K v11 w))
theorem F81_eq (P : Program) (t0 : Value) (w : World) (K : Value → World → Prop) : funE P ⟨[], [], []⟩ Tryz.f81 [t0] w K = F81 P t0 w K := by kernel_rfl
theorem F81_ok (t0 : Value) (w : World) (K : Value → World → Prop) (h : F81 Tryz.prog t0 w K) : callsK Tryz.prog 81 #[t0] w K := calls_of_eq mixedC Tryz.func81 (F81_eq _ t0 w K) h

/-- mintmark/field.may -/
def F84 (P : Program) (t0 t1 : Value) (w : World) (K : Value → World → Prop) : Prop :=
  kV P (binV .geq 3 (.tmp 5) (.const (.int .i64 0)) t1 (.int .i64 0)) w fun v6 w =>
  joinK (fun J0 : Value → World → Prop => gdK (yb v6) true (fun k => k t1 w) w fun v8 w =>
  gdK (yb v6) true (fun k => kV P (binV .leq 3 (.tmp 8) (.const (.int .i64 64)) v8 (.int .i64 64)) w k) w fun v9 w =>
  kN P (pickN v6 v9 (.bool false)) w fun v10_1 w =>
  J0 v10_1 w) fun v10 w =>
  joinK (fun J1 : Value → World → Prop => gdK (yb v10) true (fun k => k t0 w) w fun v12 w =>
  gdK (yb v10) true (fun k => kV P (binV .geq 3 (.tmp 12) (.const (.int .i64 0)) v12 (.int .i64 0)) w k) w fun v13 w =>
  kN P (pickN v10 v13 (.bool false)) w fun v14_1 w =>
  J1 v14_1 w) fun v14 w =>
  joinK (fun J2 : Value → World → Prop => gdK (yb v14) true (fun k => k t0 w) w fun v16 w =>
  gdK (yb v14) true (fun k => k t1 w) w fun v17 w =>
  gdK (yb v14) true (fun k => kV P (binV .sub 3 (.const (.int .i64 64)) (.tmp 17) (.int .i64 64) v17) w k) w fun v18 w =>
  gdK (yb v14) true (fun k => kV P (binV .leq 3 (.tmp 16) (.tmp 18) v16 v18) w k) w fun v19 w =>
  kN P (pickN v14 v19 (.bool false)) w fun v20_1 w =>
  J2 v20_1 w) fun v20 w =>
  K v20 w
theorem F84_eq (P : Program) (t0 t1 : Value) (w : World) (K : Value → World → Prop) : funE P ⟨[], [], []⟩ Tryz.f84 [t0, t1] w K = F84 P t0 t1 w K := by kernel_rfl
theorem F84_ok (t0 t1 : Value) (w : World) (K : Value → World → Prop) (h : F84 Tryz.prog t0 t1 w K) : callsK Tryz.prog 84 #[t0, t1] w K := calls_of_eq mixedC Tryz.func84 (F84_eq _ t0 t1 w K) h

/-- mintmark/bounds.widths -/
def F85 (P : Program) (w : World) (K : Value → World → Prop) : Prop :=
  kV P (Instr.alloc 174 true (.tuple #[])) w fun v0 w =>
  kV P (Instr.build 174 #[(0, (.int .i64 14)), (1, (.int .i64 12)), (2, (.int .i64 6))]) w fun v1 w =>
  kU P (Instr.storeAt 174 v0 v1) w fun _ w =>
  retV P 174 v0 w fun r0 =>
  K r0 w
theorem F85_eq (P : Program) (w : World) (K : Value → World → Prop) : funE P ⟨[], [], []⟩ Tryz.f85 [] w K = F85 P  w K := by kernel_rfl
theorem F85_ok (w : World) (K : Value → World → Prop) (h : F85 Tryz.prog  w K) : callsK Tryz.prog 85 #[] w K := calls_of_eq mixedC Tryz.func85 (F85_eq _  w K) h

end Go.Proofs.YtplfniijbeinmaaGreat
