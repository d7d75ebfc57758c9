/- The formulas of functions of this seat, told otherwise; conditions: none. -/
import Derived.Test.YtgnibcaflidjmaaFC
namespace Go.Proofs.Ytgnibcaflidjmaa
open Go.Fx
set_option linter.unusedVariables false
set_option linter.constructorNameAsVariable false
set_option maxRecDepth 100000
/-- mintmark/mintmarkref29.told -/
def G34 (P : Program) (t0 : Value) (w : World) (K : Value → World → Prop) : Prop :=
  kV P (Instr.box 38 t0) w fun v1 w =>
  kV P (Instr.fieldAt 38 v1 0) w fun v6 w =>
  kV P (Instr.loadAt 4 v6) w fun v7 w =>
  kV P (Op.unary .not v7) w fun v8 w =>
  condK v8
  (kV P (Instr.fieldAt 38 v1 2) w fun v9 w =>
  kV P (Instr.loadAt 28 v9) w fun v10 w =>
  kN P (callN (.func (.func 32) #[] #[]) #[v10, (.int .u64 16)]) w fun v11 w =>
  K v11 w)
  (kV P (Instr.loadAt 38 v1) w fun v13 w =>
  kN P (callN (.func (.func 52) #[] #[]) #[v13]) w fun v14 w =>
  kV P (Instr.extract v14 0) w fun v15 w =>
  kV P (Instr.extract v14 1) w fun v16 w =>
  kV P (Instr.alloc 104 true (.tuple #[])) w fun v3 w =>
  kU P (Instr.storeAt 104 v3 v15) w fun _ w =>
  kV P (Instr.loadAt 38 v1) w fun v17 w =>
  kN P (callN (.func (.func 53) #[] #[]) #[v17]) w fun v18 w =>
  kV P (Instr.alloc 102 true (.tuple #[])) w fun v5 w =>
  kU P (Instr.storeAt 102 v5 v18) w fun _ w =>
  drewK (fun w =>
  parR (fun I =>
  pV P (Instr.fieldAt 102 v5 0) fun v19 =>
  iV P I (Instr.loadAt 28 v19) fun v20 =>
  iN P I (callN (.func (.func 32) #[] #[]) #[v20, (.int .u64 16)]) fun v21 =>
  pV P (binV .add 9 (.const (.string ⟨#[91]⟩)) (.tmp 21) (.string ⟨#[91]⟩) v21) fun v22 =>
  pV P (binV .add 9 (.tmp 22) (.const (.string ⟨#[45]⟩)) v22 (.string ⟨#[45]⟩)) fun v23 =>
  pV P (Instr.fieldAt 102 v5 1) fun v24 =>
  iV P I (Instr.loadAt 28 v24) fun v25 =>
  iN P I (callN (.func (.func 32) #[] #[]) #[v25, (.int .u64 16)]) fun v26 =>
  pV P (binV .add 9 (.tmp 23) (.tmp 26) v23 v26) fun v27 =>
  pV P (binV .add 9 (.tmp 27) (.const (.string ⟨#[32]⟩)) v27 (.string ⟨#[32]⟩)) fun v28 =>
  pV P (Instr.fieldAt 104 v3 1) fun v29 =>
  iV P I (Instr.loadAt 28 v29) fun v30 =>
  iN P I (callN (.func (.func 54) #[] #[]) #[v30]) fun v31 =>
  pV P (binV .add 9 (.tmp 28) (.tmp 31) v28 v31) fun v32 =>
  pV P (binV .add 9 (.tmp 32) (.const (.string ⟨#[32]⟩)) v32 (.string ⟨#[32]⟩)) fun v33 =>
  pV P (Instr.fieldAt 104 v3 2) fun v34 =>
  iV P I (Instr.loadAt 28 v34) fun v35 =>
  iN P I (callN (.func (.func 32) #[] #[]) #[v35, (.int .u64 10)]) fun v36 =>
  pV P (binV .add 9 (.tmp 33) (.tmp 36) v33 v36) fun v37 =>
  pV P (binV .add 9 (.tmp 37) (.const (.string ⟨#[93]⟩)) v37 (.string ⟨#[93]⟩)) fun v38 =>
  allI I fun w =>
  K v38 w) w) w)
theorem G34_eq (P : Program) (t0 : Value) (w : World) (K : Value → World → Prop) : funE P ⟨[(5, 998)], [], []⟩ Try.f34 [t0] w K = G34 P t0 w K := by kernel_rfl
theorem G34_ok (t0 : Value) (w : World) (K : Value → World → Prop) (h : G34 Try.prog t0 w K) : callsK Try.prog 34 #[t0] w K := calls_of_eq mixedC Try.func34 (G34_eq _ t0 w K) h

/-- mintmark/script.Tell -/
def G38 (P : Program) (t0 : Value) (w : World) (K : Value → World → Prop) : Prop :=
  kV P (Instr.box 33 t0) w fun v1 w =>
  kV P (Instr.fieldAt 33 v1 0) w fun v5 w =>
  kV P (Instr.loadAt 4 v5) w fun v6 w =>
  kV P (Op.unary .not v6) w fun v7 w =>
  condK v7
  (kV P (Instr.fieldAt 33 v1 2) w fun v8 w =>
  kV P (Instr.loadAt 28 v8) w fun v9 w =>
  kN P (callN (.func (.func 36) #[] #[]) #[v9, (.int .u64 16)]) w fun v10 w =>
  K v10 w)
  (kV P (Instr.loadAt 33 v1) w fun v12 w =>
  kN P (callN (.func (.func 56) #[] #[]) #[v12]) w fun v13 w =>
  kV P (Instr.extract v13 0) w fun v14 w =>
  kV P (Instr.extract v13 1) w fun v15 w =>
  kV P (Instr.alloc 113 true (.tuple #[])) w fun v3 w =>
  kU P (Instr.storeAt 113 v3 v14) w fun _ w =>
  drewK (fun w =>
  parR (fun I =>
  iV P I (Instr.loadAt 33 v1) fun v16 =>
  iN P I (callN (.func (.func 57) #[] #[]) #[v16]) fun v17 =>
  iN P I (callN (.func (.func 36) #[] #[]) #[v17, (.int .u64 16)]) fun v18 =>
  pV P (binV .add 9 (.const (.string ⟨#[91]⟩)) (.tmp 18) (.string ⟨#[91]⟩) v18) fun v19 =>
  pV P (binV .add 9 (.tmp 19) (.const (.string ⟨#[45]⟩)) v19 (.string ⟨#[45]⟩)) fun v20 =>
  iV P I (Instr.loadAt 33 v1) fun v21 =>
  iN P I (callN (.func (.func 58) #[] #[]) #[v21]) fun v22 =>
  iN P I (callN (.func (.func 36) #[] #[]) #[v22, (.int .u64 16)]) fun v23 =>
  pV P (binV .add 9 (.tmp 20) (.tmp 23) v20 v23) fun v24 =>
  pV P (binV .add 9 (.tmp 24) (.const (.string ⟨#[32]⟩)) v24 (.string ⟨#[32]⟩)) fun v25 =>
  pV P (Instr.fieldAt 113 v3 1) fun v26 =>
  iV P I (Instr.loadAt 28 v26) fun v27 =>
  iN P I (callN (.func (.func 59) #[] #[]) #[v27]) fun v28 =>
  pV P (binV .add 9 (.tmp 25) (.tmp 28) v25 v28) fun v29 =>
  pV P (binV .add 9 (.tmp 29) (.const (.string ⟨#[32]⟩)) v29 (.string ⟨#[32]⟩)) fun v30 =>
  pV P (Instr.fieldAt 113 v3 2) fun v31 =>
  iV P I (Instr.loadAt 28 v31) fun v32 =>
  iN P I (callN (.func (.func 36) #[] #[]) #[v32, (.int .u64 10)]) fun v33 =>
  pV P (binV .add 9 (.tmp 30) (.tmp 33) v30 v33) fun v34 =>
  pV P (binV .add 9 (.tmp 34) (.const (.string ⟨#[93]⟩)) v34 (.string ⟨#[93]⟩)) fun v35 =>
  allI I fun w =>
  K v35 w) w) w)
theorem G38_eq (P : Program) (t0 : Value) (w : World) (K : Value → World → Prop) : funE P ⟨[(4, 998)], [], []⟩ Try.f38 [t0] w K = G38 P t0 w K := by kernel_rfl
theorem G38_ok (t0 : Value) (w : World) (K : Value → World → Prop) (h : G38 Try.prog t0 w K) : callsK Try.prog 38 #[t0] w K := calls_of_eq mixedC Try.func38 (G38_eq _ t0 w K) h

end Go.Proofs.Ytgnibcaflidjmaa
