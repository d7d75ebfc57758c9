/- The formulas of functions of this seat, each tied to its calls; conditions: none. -/
import Derived.Test.YtgnibcaflidjmaaProg
import Derived.Test.YtgnibcaflidjmaaFx
import Derived.KernelRfl
namespace Go.Proofs.Ytgnibcaflidjmaa
open Go.Fx
set_option linter.unusedVariables false
set_option linter.constructorNameAsVariable false
set_option maxRecDepth 100000
theorem mixedN : Try.prog.follows .mixedOrders = true := by kernel_rfl
/-- mintmark/mintmarklaw30.AuditNames -/
def F3 (P : Program) (t0 t1 : Value) (w : World) (K : Value → World → Prop) : Prop :=
  joinL (fun J0 =>
  kV P (Builtin.len_ #[22] 3 #[t0]) w fun v6 w =>
  kV P (binV .gtr 3 (.tmp 6) (.const (.int .i64 100)) v6 (.int .i64 100)) w fun v7 w =>
  condK v7
  (kV P (Instr.sliceAt 22 t0 none (some (.int .i64 100)) none) w fun v9 w =>
  J0 [v9] w)
  (J0 [t0] w)) fun s0 w => ∀ _ : Nat → Value,
  kN P (callN (.func (.func 8) #[] #[]) #[(s0.getD 0 undef)]) w fun v11 w =>
  kN P (callN (.func (.func 10) #[] #[]) #[(s0.getD 0 undef)]) w fun v13 w =>
  kN P (callN (.func (.func 9) #[] #[]) #[v13]) w fun v14 w =>
  kV P (binV .eql 9 (.tmp 11) (.tmp 14) v11 v14) w fun v15 w =>
  joinK (fun J2 : Value → World → Prop => gdK (yb v15) true (fun k => k t1 w) w fun v17 w =>
  gdK (yb v15) true (fun k => kN P (callN (.func (.func 11) #[] #[]) #[v17]) w k) w fun v18 w =>
  gdK (yb v15) true (fun k => k t1 w) w fun v19 w =>
  gdK (yb v15) true (fun k => kN P (callN (.func (.func 12) #[] #[]) #[v19]) w k) w fun v20 w =>
  gdK (yb v15) true (fun k => kV P (binV .eql 9 (.tmp 18) (.tmp 20) v18 v20) w k) w fun v21 w =>
  kN P (pickN v15 v21 (.bool false)) w fun v22_1 w =>
  J2 v22_1 w) fun v22 w =>
  joinK (fun J3 : Value → World → Prop => gdK (yb v22) true (fun k => kV P (Instr.build 30 #[(0, (.int .i64 1)), (1, (.int .i64 5)), (2, (.int .u64 7))]) w k) w fun v24 w =>
  gdK (yb v22) true (fun k => kV P (Instr.buildSlice 22 1 #[(0, v24)]) w k) w fun v25 w =>
  gdK (yb v22) true (fun k => kN P (callN (.func (.func 8) #[] #[]) #[v25]) w k) w fun v26 w =>
  gdK (yb v22) true (fun k => kV P (binV .eql 9 (.tmp 26) (.const (.string ⟨#[115, 116, 114, 97, 121, 32, 49, 32, 55, 10]⟩)) v26 (.string ⟨#[115, 116, 114, 97, 121, 32, 49, 32, 55, 10]⟩)) w k) w fun v27 w =>
  kN P (pickN v22 v27 (.bool false)) w fun v28_1 w =>
  J3 v28_1 w) fun v28 w =>
  K v28 w
theorem F3_eq (P : Program) (t0 t1 : Value) (w : World) (K : Value → World → Prop) : funE P ⟨[], [], [(3, [0])]⟩ Try.f3 [t0, t1] w K = F3 P t0 t1 w K := by kernel_rfl
theorem F3_ok (t0 t1 : Value) (w : World) (K : Value → World → Prop) (h : F3 Try.prog t0 t1 w K) : callsK Try.prog 3 #[t0, t1] w K := calls_of_eq mixedN Try.func3 (F3_eq _ t0 t1 w K) h

/-- mintmark/audit.Text -/
def F8 (P : Program) (t0 : Value) (w : World) (K : Value → World → Prop) : Prop :=
  kV P (Instr.alloc 62 true (.tuple #[])) w fun v3 w =>
  kV P (Builtin.len_ #[22] 3 #[t0]) w fun v7 w =>
  loopT (fun R0 s0 w => ∀ _ : Nat → Value,
  kV P (binV .lss 3 (.tmp 8) (.tmp 7) (s0.getD 0 undef) v7) w fun v9 w =>
  condK v9
  (joinL (fun J2 =>
  kV P (Instr.indexAt 22 t0 (s0.getD 0 undef)) w fun v10 w =>
  kV P (Instr.loadAt 30 v10) w fun v11 w =>
  kV P (Instr.alloc 30 true (.tuple #[])) w fun v5 w =>
  kU P (Instr.storeAt 30 v5 v11) w fun _ w =>
  drewK (fun w =>
  pV P (Instr.fieldAt 30 v5 1) fun v12 =>
  pV P (Instr.fieldAt 30 v5 0) fun v15 =>
  pV P (Instr.fieldAt 30 v5 2) fun v18 =>
  (kV P (Instr.loadAt 3 v12) w fun v13 w =>
  (kN P (callN (.func (.func 11) #[] #[]) #[v13]) w fun v14 w =>
  (kV P (Instr.loadAt 3 v15) w fun v16 w =>
  (kN P (callN (.func (.func 27) #[] #[]) #[v16]) w fun v17 w =>
  kV P (Instr.loadAt 28 v18) w fun v19 w =>
  kN P (callN (.func (.func 28) #[] #[]) #[v19]) w fun v20 w =>
  kV P (Instr.buildSlice 69 3 #[(0, v14), (1, v17), (2, v20)]) w fun v21 w =>
  kN P (callN (.func (.func 26) #[] #[]) #[v21, (.string ⟨#[32]⟩)]) w fun v22 w =>
  pV P (binV .add 9 (.tmp 22) (.const (.string ⟨#[10]⟩)) v22 (.string ⟨#[10]⟩)) fun v23 =>
  kN P (callN (.func (.func 25) #[] #[]) #[v3, v23]) w fun v24 w =>
  J2 [] w) ∧
  (kV P (Instr.loadAt 28 v18) w fun v19_1 w =>
  kN P (callN (.func (.func 27) #[] #[]) #[v16]) w fun v17_1 w =>
  kN P (callN (.func (.func 28) #[] #[]) #[v19_1]) w fun v20_1 w =>
  kV P (Instr.buildSlice 69 3 #[(0, v14), (1, v17_1), (2, v20_1)]) w fun v21_1 w =>
  kN P (callN (.func (.func 26) #[] #[]) #[v21_1, (.string ⟨#[32]⟩)]) w fun v22_1 w =>
  pV P (binV .add 9 (.tmp 22) (.const (.string ⟨#[10]⟩)) v22_1 (.string ⟨#[10]⟩)) fun v23_1 =>
  kN P (callN (.func (.func 25) #[] #[]) #[v3, v23_1]) w fun v24_1 w =>
  J2 [] w)) ∧
  (kV P (Instr.loadAt 28 v18) w fun v19_2 w =>
  kV P (Instr.loadAt 3 v15) w fun v16_1 w =>
  kN P (callN (.func (.func 27) #[] #[]) #[v16_1]) w fun v17_2 w =>
  kN P (callN (.func (.func 28) #[] #[]) #[v19_2]) w fun v20_2 w =>
  kV P (Instr.buildSlice 69 3 #[(0, v14), (1, v17_2), (2, v20_2)]) w fun v21_2 w =>
  kN P (callN (.func (.func 26) #[] #[]) #[v21_2, (.string ⟨#[32]⟩)]) w fun v22_2 w =>
  pV P (binV .add 9 (.tmp 22) (.const (.string ⟨#[10]⟩)) v22_2 (.string ⟨#[10]⟩)) fun v23_2 =>
  kN P (callN (.func (.func 25) #[] #[]) #[v3, v23_2]) w fun v24_2 w =>
  J2 [] w)) ∧
  (kV P (Instr.loadAt 3 v15) w fun v16_2 w =>
  (kN P (callN (.func (.func 11) #[] #[]) #[v13]) w fun v14_1 w =>
  (kN P (callN (.func (.func 27) #[] #[]) #[v16_2]) w fun v17_3 w =>
  kV P (Instr.loadAt 28 v18) w fun v19_3 w =>
  kN P (callN (.func (.func 28) #[] #[]) #[v19_3]) w fun v20_3 w =>
  kV P (Instr.buildSlice 69 3 #[(0, v14_1), (1, v17_3), (2, v20_3)]) w fun v21_3 w =>
  kN P (callN (.func (.func 26) #[] #[]) #[v21_3, (.string ⟨#[32]⟩)]) w fun v22_3 w =>
  pV P (binV .add 9 (.tmp 22) (.const (.string ⟨#[10]⟩)) v22_3 (.string ⟨#[10]⟩)) fun v23_3 =>
  kN P (callN (.func (.func 25) #[] #[]) #[v3, v23_3]) w fun v24_3 w =>
  J2 [] w) ∧
  (kV P (Instr.loadAt 28 v18) w fun v19_4 w =>
  kN P (callN (.func (.func 27) #[] #[]) #[v16_2]) w fun v17_4 w =>
  kN P (callN (.func (.func 28) #[] #[]) #[v19_4]) w fun v20_4 w =>
  kV P (Instr.buildSlice 69 3 #[(0, v14_1), (1, v17_4), (2, v20_4)]) w fun v21_4 w =>
  kN P (callN (.func (.func 26) #[] #[]) #[v21_4, (.string ⟨#[32]⟩)]) w fun v22_4 w =>
  pV P (binV .add 9 (.tmp 22) (.const (.string ⟨#[10]⟩)) v22_4 (.string ⟨#[10]⟩)) fun v23_4 =>
  kN P (callN (.func (.func 25) #[] #[]) #[v3, v23_4]) w fun v24_4 w =>
  J2 [] w)) ∧
  (kV P (Instr.loadAt 28 v18) w fun v19_5 w =>
  kN P (callN (.func (.func 11) #[] #[]) #[v13]) w fun v14_2 w =>
  kN P (callN (.func (.func 27) #[] #[]) #[v16_2]) w fun v17_5 w =>
  kN P (callN (.func (.func 28) #[] #[]) #[v19_5]) w fun v20_5 w =>
  kV P (Instr.buildSlice 69 3 #[(0, v14_2), (1, v17_5), (2, v20_5)]) w fun v21_5 w =>
  kN P (callN (.func (.func 26) #[] #[]) #[v21_5, (.string ⟨#[32]⟩)]) w fun v22_5 w =>
  pV P (binV .add 9 (.tmp 22) (.const (.string ⟨#[10]⟩)) v22_5 (.string ⟨#[10]⟩)) fun v23_5 =>
  kN P (callN (.func (.func 25) #[] #[]) #[v3, v23_5]) w fun v24_5 w =>
  J2 [] w)) ∧
  (kV P (Instr.loadAt 28 v18) w fun v19_6 w =>
  (kN P (callN (.func (.func 11) #[] #[]) #[v13]) w fun v14_3 w =>
  kV P (Instr.loadAt 3 v15) w fun v16_3 w =>
  kN P (callN (.func (.func 27) #[] #[]) #[v16_3]) w fun v17_6 w =>
  kN P (callN (.func (.func 28) #[] #[]) #[v19_6]) w fun v20_6 w =>
  kV P (Instr.buildSlice 69 3 #[(0, v14_3), (1, v17_6), (2, v20_6)]) w fun v21_6 w =>
  kN P (callN (.func (.func 26) #[] #[]) #[v21_6, (.string ⟨#[32]⟩)]) w fun v22_6 w =>
  pV P (binV .add 9 (.tmp 22) (.const (.string ⟨#[10]⟩)) v22_6 (.string ⟨#[10]⟩)) fun v23_6 =>
  kN P (callN (.func (.func 25) #[] #[]) #[v3, v23_6]) w fun v24_6 w =>
  J2 [] w) ∧
  (kV P (Instr.loadAt 3 v15) w fun v16_4 w =>
  kN P (callN (.func (.func 11) #[] #[]) #[v13]) w fun v14_4 w =>
  kN P (callN (.func (.func 27) #[] #[]) #[v16_4]) w fun v17_7 w =>
  kN P (callN (.func (.func 28) #[] #[]) #[v19_6]) w fun v20_7 w =>
  kV P (Instr.buildSlice 69 3 #[(0, v14_4), (1, v17_7), (2, v20_7)]) w fun v21_7 w =>
  kN P (callN (.func (.func 26) #[] #[]) #[v21_7, (.string ⟨#[32]⟩)]) w fun v22_7 w =>
  pV P (binV .add 9 (.tmp 22) (.const (.string ⟨#[10]⟩)) v22_7 (.string ⟨#[10]⟩)) fun v23_7 =>
  kN P (callN (.func (.func 25) #[] #[]) #[v3, v23_7]) w fun v24_7 w =>
  J2 [] w))) ∧
  (kV P (Instr.loadAt 3 v15) w fun v16_5 w =>
  (kV P (Instr.loadAt 3 v12) w fun v13_1 w =>
  (kN P (callN (.func (.func 11) #[] #[]) #[v13_1]) w fun v14_5 w =>
  (kN P (callN (.func (.func 27) #[] #[]) #[v16_5]) w fun v17_8 w =>
  kV P (Instr.loadAt 28 v18) w fun v19_7 w =>
  kN P (callN (.func (.func 28) #[] #[]) #[v19_7]) w fun v20_8 w =>
  kV P (Instr.buildSlice 69 3 #[(0, v14_5), (1, v17_8), (2, v20_8)]) w fun v21_8 w =>
  kN P (callN (.func (.func 26) #[] #[]) #[v21_8, (.string ⟨#[32]⟩)]) w fun v22_8 w =>
  pV P (binV .add 9 (.tmp 22) (.const (.string ⟨#[10]⟩)) v22_8 (.string ⟨#[10]⟩)) fun v23_8 =>
  kN P (callN (.func (.func 25) #[] #[]) #[v3, v23_8]) w fun v24_8 w =>
  J2 [] w) ∧
  (kV P (Instr.loadAt 28 v18) w fun v19_8 w =>
  kN P (callN (.func (.func 27) #[] #[]) #[v16_5]) w fun v17_9 w =>
  kN P (callN (.func (.func 28) #[] #[]) #[v19_8]) w fun v20_9 w =>
  kV P (Instr.buildSlice 69 3 #[(0, v14_5), (1, v17_9), (2, v20_9)]) w fun v21_9 w =>
  kN P (callN (.func (.func 26) #[] #[]) #[v21_9, (.string ⟨#[32]⟩)]) w fun v22_9 w =>
  pV P (binV .add 9 (.tmp 22) (.const (.string ⟨#[10]⟩)) v22_9 (.string ⟨#[10]⟩)) fun v23_9 =>
  kN P (callN (.func (.func 25) #[] #[]) #[v3, v23_9]) w fun v24_9 w =>
  J2 [] w)) ∧
  (kV P (Instr.loadAt 28 v18) w fun v19_9 w =>
  kN P (callN (.func (.func 11) #[] #[]) #[v13_1]) w fun v14_6 w =>
  kN P (callN (.func (.func 27) #[] #[]) #[v16_5]) w fun v17_10 w =>
  kN P (callN (.func (.func 28) #[] #[]) #[v19_9]) w fun v20_10 w =>
  kV P (Instr.buildSlice 69 3 #[(0, v14_6), (1, v17_10), (2, v20_10)]) w fun v21_10 w =>
  kN P (callN (.func (.func 26) #[] #[]) #[v21_10, (.string ⟨#[32]⟩)]) w fun v22_10 w =>
  pV P (binV .add 9 (.tmp 22) (.const (.string ⟨#[10]⟩)) v22_10 (.string ⟨#[10]⟩)) fun v23_10 =>
  kN P (callN (.func (.func 25) #[] #[]) #[v3, v23_10]) w fun v24_10 w =>
  J2 [] w)) ∧
  (kV P (Instr.loadAt 28 v18) w fun v19_10 w =>
  kV P (Instr.loadAt 3 v12) w fun v13_2 w =>
  kN P (callN (.func (.func 11) #[] #[]) #[v13_2]) w fun v14_7 w =>
  kN P (callN (.func (.func 27) #[] #[]) #[v16_5]) w fun v17_11 w =>
  kN P (callN (.func (.func 28) #[] #[]) #[v19_10]) w fun v20_11 w =>
  kV P (Instr.buildSlice 69 3 #[(0, v14_7), (1, v17_11), (2, v20_11)]) w fun v21_11 w =>
  kN P (callN (.func (.func 26) #[] #[]) #[v21_11, (.string ⟨#[32]⟩)]) w fun v22_11 w =>
  pV P (binV .add 9 (.tmp 22) (.const (.string ⟨#[10]⟩)) v22_11 (.string ⟨#[10]⟩)) fun v23_11 =>
  kN P (callN (.func (.func 25) #[] #[]) #[v3, v23_11]) w fun v24_11 w =>
  J2 [] w)) ∧
  (kV P (Instr.loadAt 28 v18) w fun v19_11 w =>
  (kV P (Instr.loadAt 3 v12) w fun v13_3 w =>
  (kN P (callN (.func (.func 11) #[] #[]) #[v13_3]) w fun v14_8 w =>
  kV P (Instr.loadAt 3 v15) w fun v16_6 w =>
  kN P (callN (.func (.func 27) #[] #[]) #[v16_6]) w fun v17_12 w =>
  kN P (callN (.func (.func 28) #[] #[]) #[v19_11]) w fun v20_12 w =>
  kV P (Instr.buildSlice 69 3 #[(0, v14_8), (1, v17_12), (2, v20_12)]) w fun v21_12 w =>
  kN P (callN (.func (.func 26) #[] #[]) #[v21_12, (.string ⟨#[32]⟩)]) w fun v22_12 w =>
  pV P (binV .add 9 (.tmp 22) (.const (.string ⟨#[10]⟩)) v22_12 (.string ⟨#[10]⟩)) fun v23_12 =>
  kN P (callN (.func (.func 25) #[] #[]) #[v3, v23_12]) w fun v24_12 w =>
  J2 [] w) ∧
  (kV P (Instr.loadAt 3 v15) w fun v16_7 w =>
  kN P (callN (.func (.func 11) #[] #[]) #[v13_3]) w fun v14_9 w =>
  kN P (callN (.func (.func 27) #[] #[]) #[v16_7]) w fun v17_13 w =>
  kN P (callN (.func (.func 28) #[] #[]) #[v19_11]) w fun v20_13 w =>
  kV P (Instr.buildSlice 69 3 #[(0, v14_9), (1, v17_13), (2, v20_13)]) w fun v21_13 w =>
  kN P (callN (.func (.func 26) #[] #[]) #[v21_13, (.string ⟨#[32]⟩)]) w fun v22_13 w =>
  pV P (binV .add 9 (.tmp 22) (.const (.string ⟨#[10]⟩)) v22_13 (.string ⟨#[10]⟩)) fun v23_13 =>
  kN P (callN (.func (.func 25) #[] #[]) #[v3, v23_13]) w fun v24_13 w =>
  J2 [] w)) ∧
  (kV P (Instr.loadAt 3 v15) w fun v16_8 w =>
  kV P (Instr.loadAt 3 v12) w fun v13_4 w =>
  kN P (callN (.func (.func 11) #[] #[]) #[v13_4]) w fun v14_10 w =>
  kN P (callN (.func (.func 27) #[] #[]) #[v16_8]) w fun v17_14 w =>
  kN P (callN (.func (.func 28) #[] #[]) #[v19_11]) w fun v20_14 w =>
  kV P (Instr.buildSlice 69 3 #[(0, v14_10), (1, v17_14), (2, v20_14)]) w fun v21_14 w =>
  kN P (callN (.func (.func 26) #[] #[]) #[v21_14, (.string ⟨#[32]⟩)]) w fun v22_14 w =>
  pV P (binV .add 9 (.tmp 22) (.const (.string ⟨#[10]⟩)) v22_14 (.string ⟨#[10]⟩)) fun v23_14 =>
  kN P (callN (.func (.func 25) #[] #[]) #[v3, v23_14]) w fun v24_14 w =>
  J2 [] w))) w) fun s2 w => ∀ _ : Nat → Value,
  kV P (binV .add 3 (.tmp 8) (.const (.int .i64 1)) (s0.getD 0 undef) (.int .i64 1)) w fun v25 w =>
  R0 [v25] w)
  (kN P (callN (.func (.func 29) #[] #[]) #[v3]) w fun v26 w =>
  K v26 w)) [(.int .i64 0)] w
theorem F8_eq (P : Program) (t0 : Value) (w : World) (K : Value → World → Prop) : funE P ⟨[(5, 999)], [(3, [8])], [(6, [])]⟩ Try.f8 [t0] w K = F8 P t0 w K := by kernel_rfl
theorem F8_ok (t0 : Value) (w : World) (K : Value → World → Prop) (h : F8 Try.prog t0 w K) : callsK Try.prog 8 #[t0] w K := calls_of_eq mixedN Try.func8 (F8_eq _ t0 w K) h

/-- mintmark/mintmarkref30.Text -/
def F9 (P : Program) (t0 : Value) (w : World) (K : Value → World → Prop) : Prop :=
  loopT (fun R0 s0 w => ∀ _ : Nat → Value,
  kV P (Builtin.len_ #[25] 3 #[t0]) w fun v8 w =>
  kV P (binV .lss 3 (.tmp 6) (.tmp 8) (s0.getD 1 undef) v8) w fun v9 w =>
  condK v9
  (joinL (fun J2 =>
  kV P (Instr.indexAt 25 t0 (s0.getD 1 undef)) w fun v14 w =>
  kV P (Instr.fieldAt 71 v14 0) w fun v15 w =>
  kV P (Instr.loadAt 3 v15) w fun v16 w =>
  kV P (convert 3 28 v16) w fun v17 w =>
  kN P (callN (.func (.func 30) #[] #[]) #[v17]) w fun v18 w =>
  joinL (fun J4 =>
  kV P (Instr.indexAt 25 t0 (s0.getD 1 undef)) w fun v21 w =>
  kV P (Instr.fieldAt 71 v21 0) w fun v22 w =>
  kV P (Instr.loadAt 3 v22) w fun v23 w =>
  kV P (binV .lss 3 (.tmp 23) (.const (.int .i64 0)) v23 (.int .i64 0)) w fun v24 w =>
  condK v24
  (kV P (Instr.indexAt 25 t0 (s0.getD 1 undef)) w fun v27 w =>
  kV P (Instr.fieldAt 71 v27 0) w fun v28 w =>
  kV P (Instr.loadAt 3 v28) w fun v29 w =>
  kV P (Op.unary .neg v29) w fun v30 w =>
  kV P (convert 3 28 v30) w fun v31 w =>
  kN P (callN (.func (.func 30) #[] #[]) #[v31]) w fun v32 w =>
  kV P (binV .add 9 (.const (.string ⟨#[45]⟩)) (.tmp 32) (.string ⟨#[45]⟩) v32) w fun v33 w =>
  J4 [v33] w)
  (J4 [v18] w)) fun s4 w => ∀ _ : Nat → Value,
  drewK (fun w =>
  pV P (Instr.indexAt 25 t0 (s0.getD 1 undef)) fun v37 =>
  pV P (Instr.fieldAt 71 v37 1) fun v38 =>
  pV P (Instr.indexAt 25 t0 (s0.getD 1 undef)) fun v48 =>
  pV P (Instr.fieldAt 71 v48 2) fun v49 =>
  (kV P (Instr.loadAt 3 v38) w fun v39 w =>
  (kN P (callN (.func (.func 12) #[] #[]) #[v39]) w fun v40 w =>
  pV P (binV .add 9 (.tmp 34) (.tmp 40) (s0.getD 0 undef) v40) fun v41 =>
  pV P (binV .add 9 (.tmp 41) (.const (.string ⟨#[32]⟩)) v41 (.string ⟨#[32]⟩)) fun v42 =>
  pV P (binV .add 9 (.tmp 42) (.tmp 43) v42 (s4.getD 0 undef)) fun v44 =>
  pV P (binV .add 9 (.tmp 44) (.const (.string ⟨#[32]⟩)) v44 (.string ⟨#[32]⟩)) fun v45 =>
  kV P (Instr.loadAt 28 v49) w fun v50 w =>
  kN P (callN (.func (.func 30) #[] #[]) #[v50]) w fun v51 w =>
  pV P (binV .add 9 (.tmp 45) (.tmp 51) v45 v51) fun v52 =>
  pV P (binV .add 9 (.tmp 52) (.const (.string ⟨#[10]⟩)) v52 (.string ⟨#[10]⟩)) fun v53 =>
  J2 [v53] w) ∧
  (kV P (Instr.loadAt 28 v49) w fun v50_1 w =>
  kN P (callN (.func (.func 12) #[] #[]) #[v39]) w fun v40_1 w =>
  pV P (binV .add 9 (.tmp 34) (.tmp 40) (s0.getD 0 undef) v40_1) fun v41_1 =>
  pV P (binV .add 9 (.tmp 41) (.const (.string ⟨#[32]⟩)) v41_1 (.string ⟨#[32]⟩)) fun v42_1 =>
  pV P (binV .add 9 (.tmp 42) (.tmp 43) v42_1 (s4.getD 0 undef)) fun v44_1 =>
  pV P (binV .add 9 (.tmp 44) (.const (.string ⟨#[32]⟩)) v44_1 (.string ⟨#[32]⟩)) fun v45_1 =>
  kN P (callN (.func (.func 30) #[] #[]) #[v50_1]) w fun v51_1 w =>
  pV P (binV .add 9 (.tmp 45) (.tmp 51) v45_1 v51_1) fun v52_1 =>
  pV P (binV .add 9 (.tmp 52) (.const (.string ⟨#[10]⟩)) v52_1 (.string ⟨#[10]⟩)) fun v53_1 =>
  J2 [v53_1] w)) ∧
  (kV P (Instr.loadAt 28 v49) w fun v50_2 w =>
  kV P (Instr.loadAt 3 v38) w fun v39_1 w =>
  kN P (callN (.func (.func 12) #[] #[]) #[v39_1]) w fun v40_2 w =>
  pV P (binV .add 9 (.tmp 34) (.tmp 40) (s0.getD 0 undef) v40_2) fun v41_2 =>
  pV P (binV .add 9 (.tmp 41) (.const (.string ⟨#[32]⟩)) v41_2 (.string ⟨#[32]⟩)) fun v42_2 =>
  pV P (binV .add 9 (.tmp 42) (.tmp 43) v42_2 (s4.getD 0 undef)) fun v44_2 =>
  pV P (binV .add 9 (.tmp 44) (.const (.string ⟨#[32]⟩)) v44_2 (.string ⟨#[32]⟩)) fun v45_2 =>
  kN P (callN (.func (.func 30) #[] #[]) #[v50_2]) w fun v51_2 w =>
  pV P (binV .add 9 (.tmp 45) (.tmp 51) v45_2 v51_2) fun v52_2 =>
  pV P (binV .add 9 (.tmp 52) (.const (.string ⟨#[10]⟩)) v52_2 (.string ⟨#[10]⟩)) fun v53_2 =>
  J2 [v53_2] w)) w) fun s2 w => ∀ _ : Nat → Value,
  kV P (binV .add 3 (.tmp 10) (.const (.int .i64 1)) (s0.getD 1 undef) (.int .i64 1)) w fun v11 w =>
  R0 [(s2.getD 0 undef), v11] w)
  (K (s0.getD 0 undef) w)) [(.string ⟨#[]⟩), (.int .i64 0)] w
theorem F9_eq (P : Program) (t0 : Value) (w : World) (K : Value → World → Prop) : funE P ⟨[(8, 999)], [(3, [3, 4])], [(4, [3]), (8, [5])]⟩ Try.f9 [t0] w K = F9 P t0 w K := by kernel_rfl
theorem F9_ok (t0 : Value) (w : World) (K : Value → World → Prop) (h : F9 Try.prog t0 w K) : callsK Try.prog 9 #[t0] w K := calls_of_eq mixedN Try.func9 (F9_eq _ t0 w K) h

/-- mintmark/mintmarklaw30.own -/
def F10 (P : Program) (t0 : Value) (w : World) (K : Value → World → Prop) : Prop :=
  loopT (fun R0 s0 w => ∀ _ : Nat → Value,
  kV P (Builtin.len_ #[22] 3 #[t0]) w fun v7 w =>
  kV P (binV .lss 3 (.tmp 5) (.tmp 7) (s0.getD 1 undef) v7) w fun v8 w =>
  condK v8
  (kV P (Instr.indexAt 22 t0 (s0.getD 1 undef)) w fun v14 w =>
  kV P (Instr.loadAt 30 v14) w fun v15 w =>
  kV P (Instr.buildSlice 25 1 #[(0, v15)]) w fun v16 w =>
  kV P (Builtin.append_ #[25, 25] 25 #[(s0.getD 0 undef), v16]) w fun v17 w =>
  kV P (binV .add 3 (.tmp 9) (.const (.int .i64 1)) (s0.getD 1 undef) (.int .i64 1)) w fun v10 w =>
  R0 [v17, v10] w)
  (K (s0.getD 0 undef) w)) [(.slice none 0 0), (.int .i64 0)] w
theorem F10_eq (P : Program) (t0 : Value) (w : World) (K : Value → World → Prop) : funE P ⟨[], [(3, [3, 4])], []⟩ Try.f10 [t0] w K = F10 P t0 w K := by kernel_rfl
theorem F10_ok (t0 : Value) (w : World) (K : Value → World → Prop) (h : F10 Try.prog t0 w K) : callsK Try.prog 10 #[t0] w K := calls_of_eq mixedN Try.func10 (F10_eq _ t0 w K) h

/-- mintmark/audit.Name -/
def F11 (P : Program) (t0 : Value) (w : World) (K : Value → World → Prop) : Prop :=
  kV P (binV .eql 3 (.tmp 3) (.const (.int .i64 1)) t0 (.int .i64 1)) w fun v5 w =>
  condK v5
  (K (.string ⟨#[115, 104, 97, 114, 101, 100]⟩) w)
  (kV P (binV .eql 3 (.tmp 3) (.const (.int .i64 2)) t0 (.int .i64 2)) w fun v7 w =>
  condK v7
  (K (.string ⟨#[108, 111, 111, 115, 101]⟩) w)
  (kV P (binV .eql 3 (.tmp 3) (.const (.int .i64 3)) t0 (.int .i64 3)) w fun v9 w =>
  condK v9
  (K (.string ⟨#[108, 111, 115, 116]⟩) w)
  (kV P (binV .eql 3 (.tmp 3) (.const (.int .i64 4)) t0 (.int .i64 4)) w fun v11 w =>
  condK v11
  (K (.string ⟨#[119, 114, 111, 110, 103]⟩) w)
  (kV P (binV .eql 3 (.tmp 3) (.const (.int .i64 5)) t0 (.int .i64 5)) w fun v13 w =>
  condK v13
  (K (.string ⟨#[115, 116, 114, 97, 121]⟩) w)
  (kV P (binV .eql 3 (.tmp 3) (.const (.int .i64 6)) t0 (.int .i64 6)) w fun v15 w =>
  condK v15
  (K (.string ⟨#[115, 116, 97, 108, 101]⟩) w)
  (K (.string ⟨#[]⟩) w))))))
theorem F11_eq (P : Program) (t0 : Value) (w : World) (K : Value → World → Prop) : funE P ⟨[], [], []⟩ Try.f11 [t0] w K = F11 P t0 w K := by kernel_rfl
theorem F11_ok (t0 : Value) (w : World) (K : Value → World → Prop) (h : F11 Try.prog t0 w K) : callsK Try.prog 11 #[t0] w K := calls_of_eq mixedN Try.func11 (F11_eq _ t0 w K) h

/-- mintmark/mintmarkref30.Name -/
def F12 (P : Program) (t0 : Value) (w : World) (K : Value → World → Prop) : Prop :=
  kV P (Instr.buildSlice 69 6 #[(0, (.string ⟨#[115, 104, 97, 114, 101, 100]⟩)), (1, (.string ⟨#[108, 111, 111, 115, 101]⟩)), (2, (.string ⟨#[108, 111, 115, 116]⟩)), (3, (.string ⟨#[119, 114, 111, 110, 103]⟩)), (4, (.string ⟨#[115, 116, 114, 97, 121]⟩)), (5, (.string ⟨#[115, 116, 97, 108, 101]⟩))]) w fun v4 w =>
  kV P (binV .lss 3 (.tmp 5) (.const (.int .i64 1)) t0 (.int .i64 1)) w fun v6 w =>
  joinK (fun J0 : Value → World → Prop => gdK (yb v6) false (fun k => k t0 w) w fun v8 w =>
  gdK (yb v6) false (fun k => kV P (binV .gtr 3 (.tmp 8) (.const (.int .i64 6)) v8 (.int .i64 6)) w k) w fun v9 w =>
  kN P (pickN v6 (.bool true) v9) w fun v10_1 w =>
  J0 v10_1 w) fun v10 w =>
  condK v10
  (K (.string ⟨#[]⟩) w)
  (kV P (binV .sub 3 (.tmp 12) (.const (.int .i64 1)) t0 (.int .i64 1)) w fun v13 w =>
  kV P (Instr.indexAt 69 v4 v13) w fun v14 w =>
  kV P (Instr.loadAt 9 v14) w fun v15 w =>
  K v15 w)
theorem F12_eq (P : Program) (t0 : Value) (w : World) (K : Value → World → Prop) : funE P ⟨[], [], []⟩ Try.f12 [t0] w K = F12 P t0 w K := by kernel_rfl
theorem F12_ok (t0 : Value) (w : World) (K : Value → World → Prop) (h : F12 Try.prog t0 w K) : callsK Try.prog 12 #[t0] w K := calls_of_eq mixedN Try.func12 (F12_eq _ t0 w K) h

/-- mintmark/audit.whole -/
def F27 (P : Program) (t0 : Value) (w : World) (K : Value → World → Prop) : Prop :=
  kV P (binV .lss 3 (.tmp 3) (.const (.int .i64 0)) t0 (.int .i64 0)) w fun v4 w =>
  condK v4
  (kV P (convert 3 28 t0) w fun v6 w =>
  kV P (Op.unary .neg v6) w fun v7 w =>
  kN P (callN (.func (.func 28) #[] #[]) #[v7]) w fun v8 w =>
  kV P (binV .add 9 (.const (.string ⟨#[45]⟩)) (.tmp 8) (.string ⟨#[45]⟩) v8) w fun v9 w =>
  K v9 w)
  (kV P (convert 3 28 t0) w fun v11 w =>
  kN P (callN (.func (.func 28) #[] #[]) #[v11]) w fun v12 w =>
  K v12 w)
theorem F27_eq (P : Program) (t0 : Value) (w : World) (K : Value → World → Prop) : funE P ⟨[], [], []⟩ Try.f27 [t0] w K = F27 P t0 w K := by kernel_rfl
theorem F27_ok (t0 : Value) (w : World) (K : Value → World → Prop) (h : F27 Try.prog t0 w K) : callsK Try.prog 27 #[t0] w K := calls_of_eq mixedN Try.func27 (F27_eq _ t0 w K) h

/-- mintmark/audit.digits -/
def F28 (P : Program) (t0 : Value) (w : World) (K : Value → World → Prop) : Prop :=
  loopT (fun R0 s0 w => ∀ _ : Nat → Value,
  kV P (binV .rem 28 (.tmp 4) (.const (.int .u64 10)) (s0.getD 1 undef) (.int .u64 10)) w fun v5 w =>
  kV P (binV .add 28 (.const (.int .u64 48)) (.tmp 5) (.int .u64 48) v5) w fun v6 w =>
  kV P (convert 28 5 v6) w fun v7 w =>
  kV P (Instr.buildSlice 60 1 #[(0, v7)]) w fun v8 w =>
  kV P (Builtin.append_ #[60, 60] 60 #[v8, (s0.getD 0 undef)]) w fun v10 w =>
  kV P (binV .quo 28 (.tmp 11) (.const (.int .u64 10)) (s0.getD 1 undef) (.int .u64 10)) w fun v12 w =>
  kV P (binV .eql 28 (.tmp 13) (.const (.int .u64 0)) v12 (.int .u64 0)) w fun v14 w =>
  condK v14
  (kV P (convert 60 9 v10) w fun v16 w =>
  K v16 w)
  (R0 [v10, v12] w)) [(.slice none 0 0), t0] w
theorem F28_eq (P : Program) (t0 : Value) (w : World) (K : Value → World → Prop) : funE P ⟨[], [(2, [3, 0])], []⟩ Try.f28 [t0] w K = F28 P t0 w K := by kernel_rfl
theorem F28_ok (t0 : Value) (w : World) (K : Value → World → Prop) (h : F28 Try.prog t0 w K) : callsK Try.prog 28 #[t0] w K := calls_of_eq mixedN Try.func28 (F28_eq _ t0 w K) h

/-- mintmark/mintmarkref30.digits -/
def F30 (P : Program) (t0 : Value) (w : World) (K : Value → World → Prop) : Prop :=
  kV P (binV .rem 28 (.tmp 4) (.const (.int .u64 10)) t0 (.int .u64 10)) w fun v5 w =>
  kV P (binV .rem 28 (.tmp 6) (.const (.int .u64 10)) t0 (.int .u64 10)) w fun v7 w =>
  kV P (binV .add 28 (.tmp 7) (.const (.int .u64 1)) v7 (.int .u64 1)) w fun v8 w =>
  kV P (Instr.sliceAt 9 (.string ⟨#[48, 49, 50, 51, 52, 53, 54, 55, 56, 57]⟩) (some v5) (some v8) none) w fun v9 w =>
  kV P (binV .lss 28 (.tmp 10) (.const (.int .u64 10)) t0 (.int .u64 10)) w fun v11 w =>
  condK v11
  (K v9 w)
  (kV P (binV .quo 28 (.tmp 13) (.const (.int .u64 10)) t0 (.int .u64 10)) w fun v14 w =>
  kN P (callN (.func (.func 30) #[] #[]) #[v14]) w fun v15 w =>
  kV P (binV .add 9 (.tmp 15) (.tmp 16) v15 v9) w fun v17 w =>
  K v17 w)
theorem F30_eq (P : Program) (t0 : Value) (w : World) (K : Value → World → Prop) : funE P ⟨[], [], []⟩ Try.f30 [t0] w K = F30 P t0 w K := by kernel_rfl
theorem F30_ok (t0 : Value) (w : World) (K : Value → World → Prop) (h : F30 Try.prog t0 w K) : callsK Try.prog 30 #[t0] w K := calls_of_eq mixedN Try.func30 (F30_eq _ t0 w K) h

end Go.Proofs.Ytgnibcaflidjmaa
