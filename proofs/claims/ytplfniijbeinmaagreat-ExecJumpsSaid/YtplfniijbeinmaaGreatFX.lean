/- The formulas of functions of this seat, each tied to its calls; conditions: none. -/
import Derived.Test.YtplfniijbeinmaaGreatProg
import Derived.Test.YtplfniijbeinmaaGreatFx
import Derived.KernelRfl
namespace Go.Proofs.YtplfniijbeinmaaGreat
open Go.Fx
set_option linter.unusedVariables false
set_option linter.constructorNameAsVariable false
set_option maxRecDepth 100000
theorem mixedX : Tryz.prog.follows .mixedOrders = true := by kernel_rfl
/-- mintmark/regs.Zero -/
def F8 (P : Program) (t0 : Value) (w : World) (K : Value → World → Prop) : Prop :=
  kV P (Instr.box 24 t0) w fun v1 w =>
  kV P (Instr.alloc 42 true (.tuple #[])) w fun v2 w =>
  kV P (Instr.loadAt 24 v1) w fun v3 w =>
  kV P (Instr.build 42 #[(1, v3)]) w fun v4 w =>
  kU P (Instr.storeAt 42 v2 v4) w fun _ w =>
  retV P 42 v2 w fun r0 =>
  K r0 w
theorem F8_eq (P : Program) (t0 : Value) (w : World) (K : Value → World → Prop) : funE P ⟨[], [], []⟩ Tryz.f8 [t0] w K = F8 P t0 w K := by kernel_rfl
theorem F8_ok (t0 : Value) (w : World) (K : Value → World → Prop) (h : F8 Tryz.prog t0 w K) : callsK Tryz.prog 8 #[t0] w K := calls_of_eq mixedX Tryz.func8 (F8_eq _ t0 w K) h

/-- mintmark/regs.With -/
def F9 (P : Program) (t0 t1 t2 : Value) (w : World) (K : Value → World → Prop) : Prop :=
  kV P (Instr.box 42 t0) w fun v3 w =>
  kV P (Instr.box 24 t2) w fun v5 w =>
  kV P (Instr.alloc 42 true (.tuple #[])) w fun v6 w =>
  joinL (fun J0 =>
  kN P (callN (.func (.func 27) #[] #[]) #[t1]) w fun v8 w =>
  condK v8
  (kV P (Instr.loadAt 24 v5) w fun v10 w =>
  kV P (Instr.fieldAt 42 v3 0) w fun v11 w =>
  kV P (Instr.indexAt 40 v11 t1) w fun v12 w =>
  kU P (Instr.storeAt 24 v12 v10) w fun _ w =>
  J0 [] w)
  (J0 [] w)) fun s0 w => ∀ _ : Nat → Value,
  kV P (Instr.loadAt 42 v3) w fun v13 w =>
  kU P (Instr.storeAt 42 v6 v13) w fun _ w =>
  retV P 42 v6 w fun r2 =>
  K r2 w
theorem F9_eq (P : Program) (t0 t1 t2 : Value) (w : World) (K : Value → World → Prop) : funE P ⟨[], [], [(3, [])]⟩ Tryz.f9 [t0, t1, t2] w K = F9 P t0 t1 t2 w K := by kernel_rfl
theorem F9_ok (t0 t1 t2 : Value) (w : World) (K : Value → World → Prop) (h : F9 Tryz.prog t0 t1 t2 w K) : callsK Tryz.prog 9 #[t0, t1, t2] w K := calls_of_eq mixedX Tryz.func9 (F9_eq _ t0 t1 t2 w K) h

/-- mintmark/exec.Step -/
def F10 (P : Program) (t0 t1 : Value) (w : World) (K : Value → World → Prop) : Prop :=
  kV P (Instr.box 42 t0) w fun v2 w =>
  kV P (Instr.alloc 42 true (.tuple #[])) w fun v4 w =>
  kV P (Instr.alloc 51 true (.tuple #[])) w fun v5 w =>
  kV P (Instr.fieldAt 42 v2 1) w fun v13 w =>
  kV P (Instr.fieldAt 24 v13 2) w fun v14 w =>
  kV P (Instr.loadAt 22 v14) w fun v15 w =>
  joinL (fun J0 =>
  drewK (fun w =>
  relX fun R15 =>
  postX R15 (fun p15_16 => allX R15 w fun V15 w => True → kV P (Instr.loadAt 42 v2) w (okX R15 w p15_16)) fun p15_16 =>
  postX R15 (fun p15_17 => allX R15 w fun V15 w => p15_16 (V15 16) w ∧ True → kN P (callN (.func (.func 28) #[] #[]) #[(V15 16)]) w (okX R15 w p15_17)) fun p15_17 =>
  postX R15 (fun p15_18 => allX R15 w fun V15 w => True → kV P (Instr.loadAt 42 v2) w (okX R15 w p15_18)) fun p15_18 =>
  postX R15 (fun p15_19 => allX R15 w fun V15 w => True → (okX R15 w p15_19) t1 w) fun p15_19 =>
  allX R15 w fun V15 w => p15_16 (V15 16) w ∧ p15_17 (V15 17) w ∧ p15_18 (V15 18) w ∧ p15_19 (V15 19) w ∧ True → xDist V15 [] →
  kV P (Instr.build 91 #[(0, (V15 17)), (1, (V15 18)), (2, (V15 19))]) w fun v20 w =>
  kV P (Instr.box 91 v20) w fun v21 w =>
  J0 [v21] w) w) fun s0 w => ∀ _ : Nat → Value,
  kV P (Instr.fieldAt 42 v2 1) w fun v22 w =>
  kV P (Instr.loadAt 24 v22) w fun v23 w =>
  kN P (callN (.func (.func 29) #[] #[]) #[v23, (.int .i64 0), (.int .u64 4)]) w fun v24 w =>
  kV P (binV .neq 3 (.tmp 25) (.const (.int .i64 0)) v24 (.int .i64 0)) w fun v26 w =>
  condK v26
  (kN P (callN (.func (.func 30) #[] #[]) #[(s0.getD 0 undef), (.int .i64 5), v24, v15]) w fun v30 w =>
  kV P (Instr.extract v30 0) w fun v31 w =>
  kV P (Instr.extract v30 1) w fun v32 w =>
  kU P (Instr.storeAt 42 v4 v31) w fun _ w =>
  kU P (Instr.storeAt 51 v5 v32) w fun _ w =>
  retV P 42 v4 w fun r2 =>
  retV P 51 v5 w fun r3 =>
  K (.tuple #[r2, r3]) w)
  (kV P (binV .rem 22 (.tmp 33) (.const (.int .u64 4)) v15 (.int .u64 4)) w fun v34 w =>
  kV P (binV .neq 22 (.tmp 34) (.const (.int .u64 0)) v34 (.int .u64 0)) w fun v35 w =>
  condK v35
  (kN P (callN (.func (.func 30) #[] #[]) #[(s0.getD 0 undef), (.int .i64 4), (.int .i64 0), v15]) w fun v38 w =>
  kV P (Instr.extract v38 0) w fun v39 w =>
  kV P (Instr.extract v38 1) w fun v40 w =>
  kU P (Instr.storeAt 42 v4 v39) w fun _ w =>
  kU P (Instr.storeAt 51 v5 v40) w fun _ w =>
  retV P 42 v4 w fun r4 =>
  retV P 51 v5 w fun r5 =>
  K (.tuple #[r4, r5]) w)
  (kN P (callMethod t1 "Fetch" #[v15]) w fun v44 w =>
  kV P (Instr.extract v44 0) w fun v45 w =>
  kV P (Instr.extract v44 1) w fun v46 w =>
  kV P (binV .neq 3 (.tmp 47) (.const (.int .i64 0)) v46 (.int .i64 0)) w fun v48 w =>
  condK v48
  (kN P (callN (.func (.func 30) #[] #[]) #[(s0.getD 0 undef), (.int .i64 6), v46, v15]) w fun v52 w =>
  kV P (Instr.extract v52 0) w fun v53 w =>
  kV P (Instr.extract v52 1) w fun v54 w =>
  kU P (Instr.storeAt 42 v4 v53) w fun _ w =>
  kU P (Instr.storeAt 51 v5 v54) w fun _ w =>
  retV P 42 v4 w fun r6 =>
  retV P 51 v5 w fun r7 =>
  K (.tuple #[r6, r7]) w)
  (kN P (callN (.func (.func 31) #[] #[]) #[v45]) w fun v57 w =>
  kV P (Instr.extract v57 0) w fun v58 w =>
  kV P (Instr.extract v57 1) w fun v59 w =>
  kV P (Instr.alloc 49 true (.tuple #[])) w fun v11 w =>
  kU P (Instr.storeAt 49 v11 v58) w fun _ w =>
  kV P (Op.unary .not v59) w fun v61 w =>
  condK v61
  (kN P (callN (.func (.func 30) #[] #[]) #[(s0.getD 0 undef), (.int .i64 1), (.int .i64 0), v15]) w fun v64 w =>
  kV P (Instr.extract v64 0) w fun v65 w =>
  kV P (Instr.extract v64 1) w fun v66 w =>
  kU P (Instr.storeAt 42 v4 v65) w fun _ w =>
  kU P (Instr.storeAt 51 v5 v66) w fun _ w =>
  retV P 42 v4 w fun r8 =>
  retV P 51 v5 w fun r9 =>
  K (.tuple #[r8, r9]) w)
  (joinL (fun J10 =>
  drewK (fun w =>
  relX fun R14 =>
  postX R14 (fun p14_67 => allX R14 w fun V14 w => True → (okX R14 w p14_67) (s0.getD 0 undef) w) fun p14_67 =>
  postX R14 (fun p14_68 => allX R14 w fun V14 w => True → (okX R14 w p14_68) (s0.getD 0 undef) w) fun p14_68 =>
  postX R14 (fun p14_69 => allX R14 w fun V14 w => True → (okX R14 w p14_69) (s0.getD 0 undef) w) fun p14_69 =>
  postX R14 (fun p14_70 => allX R14 w fun V14 w => True → kV P (Instr.loadAt 49 v11) w (okX R14 w p14_70)) fun p14_70 =>
  postX R14 (fun p14_71 => allX R14 w fun V14 w => True → kV P (Instr.loadAt 42 v2) w (okX R14 w p14_71)) fun p14_71 =>
  postX R14 (fun p14_72 => allX R14 w fun V14 w => True → kV P (Instr.fieldAt 49 v11 2) w (okX R14 w p14_72)) fun p14_72 =>
  postX R14 (fun p14_73 => allX R14 w fun V14 w => p14_72 (V14 72) w ∧ True → kV P (Instr.loadAt 3 (V14 72)) w (okX R14 w p14_73)) fun p14_73 =>
  postX R14 (fun p14_74 => allX R14 w fun V14 w => p14_71 (V14 71) w ∧ p14_73 (V14 73) w ∧ True → kN P (callN (.func (.func 11) #[] #[]) #[(V14 71), (V14 73)]) w (okX R14 w p14_74)) fun p14_74 =>
  postX R14 (fun p14_75 => allX R14 w fun V14 w => True → kV P (Instr.loadAt 42 v2) w (okX R14 w p14_75)) fun p14_75 =>
  postX R14 (fun p14_76 => allX R14 w fun V14 w => True → kV P (Instr.fieldAt 49 v11 3) w (okX R14 w p14_76)) fun p14_76 =>
  postX R14 (fun p14_77 => allX R14 w fun V14 w => p14_76 (V14 76) w ∧ True → kV P (Instr.loadAt 3 (V14 76)) w (okX R14 w p14_77)) fun p14_77 =>
  postX R14 (fun p14_78 => allX R14 w fun V14 w => p14_74 (V14 74) w ∧ p14_75 (V14 75) w ∧ p14_77 (V14 77) w ∧ True → kN P (callN (.func (.func 11) #[] #[]) #[(V14 75), (V14 77)]) w (okX R14 w p14_78)) fun p14_78 =>
  postX R14 (fun p14_79 => allX R14 w fun V14 w => p14_67 (V14 67) w ∧ p14_70 (V14 70) w ∧ p14_74 (V14 74) w ∧ p14_78 (V14 78) w ∧ True → kN P (nilN (V14 67)) w (okX R14 w p14_79)) fun p14_79 =>
  postX R14 (fun p14_80 => allX R14 w fun V14 w => p14_67 (V14 67) w ∧ p14_70 (V14 70) w ∧ p14_74 (V14 74) w ∧ p14_78 (V14 78) w ∧ p14_79 (V14 79) w ∧ True → kV P (Instr.fieldAt 91 (V14 79) 3) w (okX R14 w p14_80)) fun p14_80 =>
  postX R14 (fun p14_n14 => allX R14 w fun V14 w => p14_67 (V14 67) w ∧ p14_70 (V14 70) w ∧ p14_74 (V14 74) w ∧ p14_78 (V14 78) w ∧ p14_80 (V14 80) w ∧ True → kU P (Instr.storeAt 49 (V14 80) (V14 70)) w (okX R14 w (fun _ => p14_n14 (V14 80)))) fun p14_n14 =>
  postX R14 (fun p14_81 => allX R14 w fun V14 w => p14_67 (V14 67) w ∧ p14_68 (V14 68) w ∧ p14_70 (V14 70) w ∧ p14_71 (V14 71) w ∧ p14_72 (V14 72) w ∧ p14_73 (V14 73) w ∧ p14_74 (V14 74) w ∧ p14_78 (V14 78) w ∧ p14_79 (V14 79) w ∧ p14_80 (V14 80) w ∧ p14_n14 (V14 80) w ∧ True → kN P (nilN (V14 68)) w (okX R14 w p14_81)) fun p14_81 =>
  postX R14 (fun p14_82 => allX R14 w fun V14 w => p14_67 (V14 67) w ∧ p14_68 (V14 68) w ∧ p14_70 (V14 70) w ∧ p14_71 (V14 71) w ∧ p14_72 (V14 72) w ∧ p14_73 (V14 73) w ∧ p14_74 (V14 74) w ∧ p14_78 (V14 78) w ∧ p14_79 (V14 79) w ∧ p14_80 (V14 80) w ∧ p14_n14 (V14 80) w ∧ p14_81 (V14 81) w ∧ True → kV P (Instr.fieldAt 91 (V14 81) 4) w (okX R14 w p14_82)) fun p14_82 =>
  postX R14 (fun p14_n17 => allX R14 w fun V14 w => p14_67 (V14 67) w ∧ p14_68 (V14 68) w ∧ p14_70 (V14 70) w ∧ p14_71 (V14 71) w ∧ p14_72 (V14 72) w ∧ p14_73 (V14 73) w ∧ p14_74 (V14 74) w ∧ p14_78 (V14 78) w ∧ p14_79 (V14 79) w ∧ p14_80 (V14 80) w ∧ p14_n14 (V14 80) w ∧ p14_82 (V14 82) w ∧ True → kU P (Instr.storeAt 24 (V14 82) (V14 74)) w (okX R14 w (fun _ => p14_n17 (V14 82)))) fun p14_n17 =>
  allX R14 w fun V14 w => p14_67 (V14 67) w ∧ p14_68 (V14 68) w ∧ p14_69 (V14 69) w ∧ p14_70 (V14 70) w ∧ p14_71 (V14 71) w ∧ p14_72 (V14 72) w ∧ p14_73 (V14 73) w ∧ p14_74 (V14 74) w ∧ p14_75 (V14 75) w ∧ p14_76 (V14 76) w ∧ p14_77 (V14 77) w ∧ p14_78 (V14 78) w ∧ p14_79 (V14 79) w ∧ p14_80 (V14 80) w ∧ p14_n14 (V14 80) w ∧ p14_81 (V14 81) w ∧ p14_82 (V14 82) w ∧ p14_n17 (V14 82) w ∧ True → xDist V14 [] →
  kN P (nilN (V14 69)) w fun v83 w =>
  kV P (Instr.fieldAt 91 v83 5) w fun v84 w =>
  kU P (Instr.storeAt 24 v84 (V14 78)) w fun _ w =>
  J10 [] w) w) fun s10 w => ∀ _ : Nat → Value,
  kN P (callN (.func (.func 32) #[] #[]) #[(s0.getD 0 undef)]) w fun v86 w =>
  kV P (Instr.extract v86 0) w fun v87 w =>
  kV P (Instr.extract v86 1) w fun v88 w =>
  kU P (Instr.storeAt 42 v4 v87) w fun _ w =>
  kU P (Instr.storeAt 51 v5 v88) w fun _ w =>
  retV P 42 v4 w fun r12 =>
  retV P 51 v5 w fun r13 =>
  K (.tuple #[r12, r13]) w))))
theorem F10_eq (P : Program) (t0 t1 : Value) (w : World) (K : Value → World → Prop) : funE P ⟨[(2, 1004), (14, 1018)], [], [(3, [7]), (15, [])]⟩ Tryz.f10 [t0, t1] w K = F10 P t0 t1 w K := by kernel_rfl
theorem F10_ok (t0 t1 : Value) (w : World) (K : Value → World → Prop) (h : F10 Tryz.prog t0 t1 w K) : callsK Tryz.prog 10 #[t0, t1] w K := calls_of_eq mixedX Tryz.func10 (F10_eq _ t0 t1 w K) h

/-- mintmark/regs.Get -/
def F11 (P : Program) (t0 t1 : Value) (w : World) (K : Value → World → Prop) : Prop :=
  kV P (Instr.box 42 t0) w fun v2 w =>
  kV P (Instr.alloc 24 true (.tuple #[])) w fun v4 w =>
  kN P (callN (.func (.func 27) #[] #[]) #[t1]) w fun v6 w =>
  kV P (Op.unary .not v6) w fun v7 w =>
  condK v7
  (kV P (Instr.build 24 #[]) w fun v8 w =>
  kU P (Instr.storeAt 24 v4 v8) w fun _ w =>
  retV P 24 v4 w fun r0 =>
  K r0 w)
  (kV P (Instr.fieldAt 42 v2 0) w fun v10 w =>
  kV P (Instr.indexAt 40 v10 t1) w fun v11 w =>
  kV P (Instr.loadAt 24 v11) w fun v12 w =>
  kU P (Instr.storeAt 24 v4 v12) w fun _ w =>
  retV P 24 v4 w fun r1 =>
  K r1 w)
theorem F11_eq (P : Program) (t0 t1 : Value) (w : World) (K : Value → World → Prop) : funE P ⟨[], [], []⟩ Tryz.f11 [t0, t1] w K = F11 P t0 t1 w K := by kernel_rfl
theorem F11_ok (t0 t1 : Value) (w : World) (K : Value → World → Prop) (h : F11 Tryz.prog t0 t1 w K) : callsK Tryz.prog 11 #[t0, t1] w K := calls_of_eq mixedX Tryz.func11 (F11_eq _ t0 t1 w K) h

/-- mintmark/mintmarklaw17.one -/
def F12 (P : Program) (w : World) (K : Value → World → Prop) : Prop :=
  kV P (Instr.buildSlice 39 1 #[(0, (.int .u32 5243027))]) w fun v9 w =>
  kV P (Instr.build 45 #[(0, v9)]) w fun v10 w =>
  kN P (callN (.func (.func 7) #[] #[]) #[v10]) w fun v11 w =>
  kV P (Instr.extract v11 0) w fun v12 w =>
  kV P (Instr.extract v11 1) w fun v13 w =>
  kV P (Instr.extract v11 2) w fun v14 w =>
  kV P (Instr.alloc 35 true (.tuple #[])) w fun v2 w =>
  kU P (Instr.storeAt 35 v2 v13) w fun _ w =>
  kV P (Instr.build 24 #[(0, (.bool true)), (1, (.int .u64 17180917760))]) w fun v15 w =>
  kV P (Instr.alloc 24 true (.tuple #[])) w fun v4 w =>
  kU P (Instr.storeAt 24 v4 v15) w fun _ w =>
  kV P (Instr.loadAt 24 v4) w fun v17 w =>
  kN P (callN (.func (.func 8) #[] #[]) #[v17]) w fun v18 w =>
  kV P (Instr.build 55 #[(0, v12)]) w fun v20 w =>
  kV P (Instr.makeInterface 55 v20) w fun v21 w =>
  kN P (callN (.func (.func 10) #[] #[]) #[v18, v21]) w fun v22 w =>
  kV P (Instr.extract v22 0) w fun v23 w =>
  kV P (Instr.extract v22 1) w fun v24 w =>
  kV P (Instr.alloc 42 true (.tuple #[])) w fun v5 w =>
  kV P (Instr.alloc 51 true (.tuple #[])) w fun v6 w =>
  kU P (Instr.storeAt 42 v5 v23) w fun _ w =>
  kU P (Instr.storeAt 51 v6 v24) w fun _ w =>
  kV P (Instr.loadAt 42 v5) w fun v25 w =>
  kN P (callN (.func (.func 28) #[] #[]) #[v25]) w fun v26 w =>
  kV P (Instr.alloc 42 true (.tuple #[])) w fun v7 w =>
  kU P (Instr.storeAt 42 v7 v26) w fun _ w =>
  kV P (Instr.fieldAt 51 v6 0) w fun v27 w =>
  kV P (Instr.loadAt 3 v27) w fun v28 w =>
  kV P (binV .eql 3 (.tmp 28) (.const (.int .i64 0)) v28 (.int .i64 0)) w fun v29 w =>
  joinK (fun J0 : Value → World → Prop => gdK (yb v29) true (fun k => kV P (Instr.fieldAt 51 v6 3) w k) w fun v31 w =>
  gdK (yb v29) true (fun k => kV P (Instr.fieldAt 49 v31 0) w k) w fun v32 w =>
  gdK (yb v29) true (fun k => kV P (Instr.loadAt 3 v32) w k) w fun v33 w =>
  gdK (yb v29) true (fun k => kV P (binV .eql 3 (.tmp 33) (.const (.int .i64 22)) v33 (.int .i64 22)) w k) w fun v34 w =>
  kN P (pickN v29 v34 (.bool false)) w fun v35_1 w =>
  J0 v35_1 w) fun v35 w =>
  joinK (fun J1 : Value → World → Prop => gdK (yb v35) true (fun k => kV P (Instr.loadAt 42 v5) w k) w fun v37 w =>
  gdK (yb v35) true (fun k => kN P (callN (.func (.func 11) #[] #[]) #[v37, (.int .i64 1)]) w k) w fun v38 w =>
  gdK (yb v35) true (fun k => kN P (callN (.func (.func 33) #[] #[]) #[(.int .u64 5)]) w k) w fun v39 w =>
  gdK (yb v35) true (fun k => kV P (binV .eql 24 (.tmp 38) (.tmp 39) v38 v39) w k) w fun v40 w =>
  kN P (pickN v35 v40 (.bool false)) w fun v41_1 w =>
  J1 v41_1 w) fun v41 w =>
  joinK (fun J2 : Value → World → Prop => gdK (yb v41) true (fun k => kV P (Instr.fieldAt 42 v5 1) w k) w fun v43 w =>
  gdK (yb v41) true (fun k => kV P (Instr.fieldAt 24 v43 2) w k) w fun v44 w =>
  gdK (yb v41) true (fun k => kV P (Instr.loadAt 22 v44) w k) w fun v45 w =>
  gdK (yb v41) true (fun k => kV P (binV .eql 22 (.tmp 45) (.const (.int .u64 4)) v45 (.int .u64 4)) w k) w fun v46 w =>
  kN P (pickN v41 v46 (.bool false)) w fun v47_1 w =>
  J2 v47_1 w) fun v47 w =>
  joinK (fun J3 : Value → World → Prop => gdK (yb v47) true (fun k => kV P (Instr.fieldAt 42 v7 1) w k) w fun v49 w =>
  gdK (yb v47) true (fun k => kV P (Instr.fieldAt 24 v49 2) w k) w fun v50 w =>
  gdK (yb v47) true (fun k => kV P (Instr.loadAt 22 v50) w k) w fun v51 w =>
  gdK (yb v47) true (fun k => kV P (binV .eql 22 (.tmp 51) (.const (.int .u64 8)) v51 (.int .u64 8)) w k) w fun v52 w =>
  kN P (pickN v47 v52 (.bool false)) w fun v53_1 w =>
  J3 v53_1 w) fun v53 w =>
  K v53 w
theorem F12_eq (P : Program) (w : World) (K : Value → World → Prop) : funE P ⟨[], [], []⟩ Tryz.f12 [] w K = F12 P  w K := by kernel_rfl
theorem F12_ok (w : World) (K : Value → World → Prop) (h : F12 Tryz.prog  w K) : callsK Tryz.prog 12 #[] w K := calls_of_eq mixedX Tryz.func12 (F12_eq _  w K) h

/-- mintmark/algebra.Move -/
def F16 (P : Program) (t0 t1 : Value) (w : World) (K : Value → World → Prop) : Prop :=
  kV P (Instr.box 24 t0) w fun v2 w =>
  kV P (Instr.alloc 24 true (.tuple #[])) w fun v4 w =>
  kV P (Instr.loadAt 24 v2) w fun v5 w =>
  kV P (Instr.fieldAt 24 v2 2) w fun v6 w =>
  kV P (Instr.loadAt 22 v6) w fun v7 w =>
  kV P (binV .add 22 (.tmp 7) (.tmp 8) v7 t1) w fun v9 w =>
  kN P (callN (.func (.func 44) #[] #[]) #[v5, v9]) w fun v10 w =>
  kU P (Instr.storeAt 24 v4 v10) w fun _ w =>
  retV P 24 v4 w fun r0 =>
  K r0 w
theorem F16_eq (P : Program) (t0 t1 : Value) (w : World) (K : Value → World → Prop) : funE P ⟨[], [], []⟩ Tryz.f16 [t0, t1] w K = F16 P t0 t1 w K := by kernel_rfl
theorem F16_ok (t0 t1 : Value) (w : World) (K : Value → World → Prop) (h : F16 Tryz.prog t0 t1 w K) : callsK Tryz.prog 16 #[t0, t1] w K := calls_of_eq mixedX Tryz.func16 (F16_eq _ t0 t1 w K) h

/-- mintmark/capab.meta -/
def F20 (P : Program) (t0 t1 : Value) (w : World) (K : Value → World → Prop) : Prop :=
  kV P (Instr.box 69 t0) w fun v2 w =>
  kV P (Instr.box 28 t1) w fun v3 w =>
  drewK (fun w =>
  relX fun R0 =>
  postX R0 (fun p0_5 => allX R0 w fun V0 w => True → kV P (Instr.loadAt 69 v2) w (okX R0 w p0_5)) fun p0_5 =>
  postX R0 (fun p0_6 => allX R0 w fun V0 w => p0_5 (V0 5) w ∧ True → kN P (callN (.func (.func 50) #[] #[]) #[(V0 5)]) w (okX R0 w p0_6)) fun p0_6 =>
  postX R0 (fun p0_7 => allX R0 w fun V0 w => p0_6 (V0 6) w ∧ True → kV P (Instr.build 131 #[(1, (.int .i64 32)), (2, (V0 6))]) w (okX R0 w p0_7)) fun p0_7 =>
  postX R0 (fun p0_8 => allX R0 w fun V0 w => True → kV P (Instr.fieldAt 28 v3 1) w (okX R0 w p0_8)) fun p0_8 =>
  postX R0 (fun p0_9 => allX R0 w fun V0 w => p0_8 (V0 8) w ∧ True → kV P (Instr.loadAt 22 (V0 8)) w (okX R0 w p0_9)) fun p0_9 =>
  postX R0 (fun p0_10 => allX R0 w fun V0 w => p0_9 (V0 9) w ∧ True → kV P (Instr.build 131 #[(0, (.int .i64 32)), (1, (.int .i64 9)), (2, (V0 9))]) w (okX R0 w p0_10)) fun p0_10 =>
  postX R0 (fun p0_11 => allX R0 w fun V0 w => True → kV P (Instr.fieldAt 28 v3 2) w (okX R0 w p0_11)) fun p0_11 =>
  postX R0 (fun p0_12 => allX R0 w fun V0 w => p0_11 (V0 11) w ∧ True → kV P (Instr.loadAt 22 (V0 11)) w (okX R0 w p0_12)) fun p0_12 =>
  postX R0 (fun p0_13 => allX R0 w fun V0 w => p0_12 (V0 12) w ∧ True → kV P (Instr.build 131 #[(0, (.int .i64 48)), (1, (.int .i64 12)), (2, (V0 12))]) w (okX R0 w p0_13)) fun p0_13 =>
  allX R0 w fun V0 w => p0_5 (V0 5) w ∧ p0_6 (V0 6) w ∧ p0_7 (V0 7) w ∧ p0_8 (V0 8) w ∧ p0_9 (V0 9) w ∧ p0_10 (V0 10) w ∧ p0_11 (V0 11) w ∧ p0_12 (V0 12) w ∧ p0_13 (V0 13) w ∧ True → xDist V0 [] →
  kV P (Instr.buildSlice 179 3 #[(0, (V0 7)), (1, (V0 10)), (2, (V0 13))]) w fun v14 w =>
  kN P (callN (.func (.func 51) #[] #[]) #[v14]) w fun v15 w =>
  K v15 w) w
theorem F20_eq (P : Program) (t0 t1 : Value) (w : World) (K : Value → World → Prop) : funE P ⟨[(1, 1009)], [], []⟩ Tryz.f20 [t0, t1] w K = F20 P t0 t1 w K := by kernel_rfl
theorem F20_ok (t0 t1 : Value) (w : World) (K : Value → World → Prop) (h : F20 Tryz.prog t0 t1 w K) : callsK Tryz.prog 20 #[t0, t1] w K := calls_of_eq mixedX Tryz.func20 (F20_eq _ t0 t1 w K) h

/-- mintmark/mintmarkref08.New -/
def F22 (P : Program) (t0 : Value) (w : World) (K : Value → World → Prop) : Prop :=
  kV P (Instr.alloc 35 true (.tuple #[])) w fun v2 w =>
  kV P (binV .lss 3 (.tmp 4) (.const (.int .i64 1)) t0 (.int .i64 1)) w fun v5 w =>
  joinK (fun J0 : Value → World → Prop => gdK (yb v5) false (fun k => k t0 w) w fun v7 w =>
  gdK (yb v5) false (fun k => kV P (binV .gtr 3 (.tmp 7) (.const (.int .i64 64)) v7 (.int .i64 64)) w k) w fun v8 w =>
  kN P (pickN v5 (.bool true) v8) w fun v9_1 w =>
  J0 v9_1 w) fun v9 w =>
  condK v9
  (kV P (Instr.build 35 #[]) w fun v10 w =>
  kU P (Instr.storeAt 35 v2 v10) w fun _ w =>
  retV P 35 v2 w fun r1 =>
  K (.tuple #[r1, (.int .i64 2)]) w)
  (kV P (Instr.build 35 #[(0, t0)]) w fun v12 w =>
  kU P (Instr.storeAt 35 v2 v12) w fun _ w =>
  retV P 35 v2 w fun r2 =>
  K (.tuple #[r2, (.int .i64 0)]) w)
theorem F22_eq (P : Program) (t0 : Value) (w : World) (K : Value → World → Prop) : funE P ⟨[], [], []⟩ Tryz.f22 [t0] w K = F22 P t0 w K := by kernel_rfl
theorem F22_ok (t0 : Value) (w : World) (K : Value → World → Prop) (h : F22 Tryz.prog t0 w K) : callsK Tryz.prog 22 #[t0] w K := calls_of_eq mixedX Tryz.func22 (F22_eq _ t0 w K) h

/-- (mintmark/mintmarkref08.Ram).Store -/
def F24 (P : Program) (t0 t1 t2 t3 : Value) (w : World) (K : Value → World → Prop) : Prop :=
  kV P (Instr.box 35 t0) w fun v4 w =>
  kV P (Instr.alloc 35 true (.tuple #[])) w fun v8 w =>
  kV P (Instr.loadAt 35 v4) w fun v11 w =>
  kN P (callN (.func (.func 58) #[] #[]) #[v11, t1, t2]) w fun v14 w =>
  kV P (Op.unary .not v14) w fun v15 w =>
  condK v15
  (kV P (Instr.loadAt 35 v4) w fun v16 w =>
  kU P (Instr.storeAt 35 v8 v16) w fun _ w =>
  retV P 35 v8 w fun r0 =>
  K (.tuple #[r0, (.int .i64 2)]) w)
  (loopT (fun R1 s1 w => ∀ _ : Nat → Value,
  kV P (binV .lss 3 (.tmp 17) (.tmp 18) (s1.getD 0 undef) t2) w fun v19 w =>
  condK v19
  (kV P (Instr.loadAt 35 v4) w fun v22 w =>
  kV P (convert 3 22 (s1.getD 0 undef)) w fun v25 w =>
  kV P (binV .add 22 (.tmp 23) (.tmp 25) t1 v25) w fun v26 w =>
  kV P (binV .mul 3 (.const (.int .i64 8)) (.tmp 28) (.int .i64 8) (s1.getD 0 undef)) w fun v29 w =>
  kV P (convert 3 151 v29) w fun v30 w =>
  kV P (binV .shr 22 (.tmp 27) (.tmp 30) t3 v30) w fun v31 w =>
  kV P (convert 22 5 v31) w fun v32 w =>
  kN P (callN (.func (.func 59) #[] #[]) #[v22, v26, v32]) w fun v33 w =>
  kU P (Instr.storeAt 35 v4 v33) w fun _ w =>
  kV P (binV .add 3 (.tmp 20) (.const (.int .i64 1)) (s1.getD 0 undef) (.int .i64 1)) w fun v21 w =>
  R1 [v21] w)
  (kV P (Instr.loadAt 35 v4) w fun v34 w =>
  kU P (Instr.storeAt 35 v8 v34) w fun _ w =>
  retV P 35 v8 w fun r3 =>
  K (.tuple #[r3, (.int .i64 0)]) w)) [(.int .i64 0)] w)
theorem F24_eq (P : Program) (t0 t1 t2 t3 : Value) (w : World) (K : Value → World → Prop) : funE P ⟨[], [(4, [10])], []⟩ Tryz.f24 [t0, t1, t2, t3] w K = F24 P t0 t1 t2 t3 w K := by kernel_rfl
theorem F24_ok (t0 t1 t2 t3 : Value) (w : World) (K : Value → World → Prop) (h : F24 Tryz.prog t0 t1 t2 t3 w K) : callsK Tryz.prog 24 #[t0, t1, t2, t3] w K := calls_of_eq mixedX Tryz.func24 (F24_eq _ t0 t1 t2 t3 w K) h

/-- mintmark/regs.is -/
def F27 (P : Program) (t0 : Value) (w : World) (K : Value → World → Prop) : Prop :=
  kV P (binV .geq 3 (.tmp 3) (.const (.int .i64 1)) t0 (.int .i64 1)) w fun v4 w =>
  joinK (fun J0 : Value → World → Prop => gdK (yb v4) true (fun k => k t0 w) w fun v6 w =>
  gdK (yb v4) true (fun k => kV P (binV .lss 3 (.tmp 6) (.const (.int .i64 32)) v6 (.int .i64 32)) w k) w fun v7 w =>
  kN P (pickN v4 v7 (.bool false)) w fun v8_1 w =>
  J0 v8_1 w) fun v8 w =>
  K v8 w
theorem F27_eq (P : Program) (t0 : Value) (w : World) (K : Value → World → Prop) : funE P ⟨[], [], []⟩ Tryz.f27 [t0] w K = F27 P t0 w K := by kernel_rfl
theorem F27_ok (t0 : Value) (w : World) (K : Value → World → Prop) (h : F27 Tryz.prog t0 w K) : callsK Tryz.prog 27 #[t0] w K := calls_of_eq mixedX Tryz.func27 (F27_eq _ t0 w K) h

/-- mintmark/exec.Next -/
def F28 (P : Program) (t0 : Value) (w : World) (K : Value → World → Prop) : Prop :=
  kV P (Instr.box 42 t0) w fun v1 w =>
  kV P (Instr.alloc 42 true (.tuple #[])) w fun v2 w =>
  kV P (Instr.fieldAt 42 v1 1) w fun v3 w =>
  kV P (Instr.loadAt 24 v3) w fun v4 w =>
  kN P (callN (.func (.func 16) #[] #[]) #[v4, (.int .u64 4)]) w fun v5 w =>
  kV P (Instr.fieldAt 42 v1 1) w fun v6 w =>
  kU P (Instr.storeAt 24 v6 v5) w fun _ w =>
  kV P (Instr.loadAt 42 v1) w fun v7 w =>
  kU P (Instr.storeAt 42 v2 v7) w fun _ w =>
  retV P 42 v2 w fun r0 =>
  K r0 w
theorem F28_eq (P : Program) (t0 : Value) (w : World) (K : Value → World → Prop) : funE P ⟨[], [], []⟩ Tryz.f28 [t0] w K = F28 P t0 w K := by kernel_rfl
theorem F28_ok (t0 : Value) (w : World) (K : Value → World → Prop) (h : F28 Tryz.prog t0 w K) : callsK Tryz.prog 28 #[t0] w K := calls_of_eq mixedX Tryz.func28 (F28_eq _ t0 w K) h

/-- mintmark/algebra.Check -/
def F29 (P : Program) (t0 t1 t2 : Value) (w : World) (K : Value → World → Prop) : Prop :=
  kV P (Instr.box 24 t0) w fun v3 w =>
  kV P (Instr.loadAt 24 v3) w fun v8 w =>
  kN P (callN (.func (.func 45) #[] #[]) #[v8]) w fun v9 w =>
  kV P (Instr.alloc 121 true (.tuple #[])) w fun v7 w =>
  kU P (Instr.storeAt 121 v7 v9) w fun _ w =>
  kV P (Instr.fieldAt 121 v7 2) w fun v11 w =>
  kV P (Instr.loadAt 4 v11) w fun v12 w =>
  kV P (Op.unary .not v12) w fun v13 w =>
  condK v13
  (K (.int .i64 1) w)
  (kV P (Instr.loadAt 121 v7) w fun v15 w =>
  kN P (callN (.func (.func 64) #[] #[]) #[v15]) w fun v16 w =>
  kV P (Op.unary .not v16) w fun v17 w =>
  condK v17
  (K (.int .i64 2) w)
  (drewK (fun w =>
  sN P (callN (.func (.func 66) #[] #[]) #[t1]) w fun v20 =>
  sV P (Instr.fieldAt 121 v7 1) w fun v21 =>
  sV P (Instr.fieldAt 28 v21 1) w fun v22 =>
  sV P (Instr.loadAt 22 v22) w fun v23 =>
  sN P (callN (.func (.func 65) #[] #[]) #[v20, v23]) w fun v24 =>
  sV P (Op.unary .not v24) w fun v25 =>
  condK v25
  (K (.int .i64 3) w)
  (kV P (Instr.fieldAt 24 v3 2) w fun v27 w =>
  kV P (Instr.loadAt 22 v27) w fun v28 w =>
  kV P (Instr.fieldAt 121 v7 1) w fun v30 w =>
  kV P (Instr.fieldAt 28 v30 0) w fun v31 w =>
  kV P (Instr.fieldAt 26 v31 0) w fun v32 w =>
  kV P (Instr.loadAt 22 v32) w fun v33 w =>
  kV P (Instr.fieldAt 121 v7 1) w fun v34 w =>
  kV P (Instr.fieldAt 28 v34 0) w fun v35 w =>
  kV P (Instr.fieldAt 26 v35 1) w fun v36 w =>
  kV P (Instr.loadAt 22 v36) w fun v37 w =>
  kN P (callN (.func (.func 67) #[] #[]) #[v28, t2, v33, v37]) w fun v38 w =>
  kV P (Op.unary .not v38) w fun v39 w =>
  condK v39
  (K (.int .i64 4) w)
  (K (.int .i64 0) w))) w))
theorem F29_eq (P : Program) (t0 t1 t2 : Value) (w : World) (K : Value → World → Prop) : funE P ⟨[], [], []⟩ Tryz.f29 [t0, t1, t2] w K = F29 P t0 t1 t2 w K := by kernel_rfl
theorem F29_ok (t0 t1 t2 : Value) (w : World) (K : Value → World → Prop) (h : F29 Tryz.prog t0 t1 t2 w K) : callsK Tryz.prog 29 #[t0, t1, t2] w K := calls_of_eq mixedX Tryz.func29 (F29_eq _ t0 t1 t2 w K) h

/-- (*mintmark/exec.run).trap -/
def F30 (P : Program) (t0 t1 t2 t3 : Value) (w : World) (K : Value → World → Prop) : Prop :=
  kV P (Instr.alloc 42 true (.tuple #[])) w fun v8 w =>
  kV P (Instr.alloc 51 true (.tuple #[])) w fun v9 w =>
  drewK (fun w =>
  relX fun R0 =>
  postX R0 (fun p0_10 => allX R0 w fun V0 w => True → (okX R0 w p0_10) t0 w) fun p0_10 =>
  postX R0 (fun p0_11 => allX R0 w fun V0 w => p0_10 (V0 10) w ∧ True → kN P (nilN (V0 10)) w (okX R0 w p0_11)) fun p0_11 =>
  postX R0 (fun p0_12 => allX R0 w fun V0 w => p0_11 (V0 11) w ∧ True → kV P (Instr.fieldAt 91 (V0 11) 1) w (okX R0 w p0_12)) fun p0_12 =>
  postX R0 (fun p0_13 => allX R0 w fun V0 w => p0_12 (V0 12) w ∧ True → kV P (Instr.loadAt 42 (V0 12)) w (okX R0 w p0_13)) fun p0_13 =>
  postX R0 (fun p0_14 => allX R0 w fun V0 w => True → (okX R0 w p0_14) t1 w) fun p0_14 =>
  postX R0 (fun p0_15 => allX R0 w fun V0 w => True → (okX R0 w p0_15) t2 w) fun p0_15 =>
  postX R0 (fun p0_16 => allX R0 w fun V0 w => True → (okX R0 w p0_16) t3 w) fun p0_16 =>
  postX R0 (fun p0_17 => allX R0 w fun V0 w => True → (okX R0 w p0_17) t0 w) fun p0_17 =>
  postX R0 (fun p0_18 => allX R0 w fun V0 w => p0_17 (V0 17) w ∧ True → kN P (nilN (V0 17)) w (okX R0 w p0_18)) fun p0_18 =>
  postX R0 (fun p0_19 => allX R0 w fun V0 w => p0_18 (V0 18) w ∧ True → kV P (Instr.fieldAt 91 (V0 18) 3) w (okX R0 w p0_19)) fun p0_19 =>
  postX R0 (fun p0_20 => allX R0 w fun V0 w => p0_19 (V0 19) w ∧ True → kV P (Instr.loadAt 49 (V0 19)) w (okX R0 w p0_20)) fun p0_20 =>
  postX R0 (fun p0_21 => allX R0 w fun V0 w => p0_14 (V0 14) w ∧ p0_15 (V0 15) w ∧ p0_16 (V0 16) w ∧ p0_20 (V0 20) w ∧ True → kV P (Instr.build 51 #[(0, (V0 14)), (1, (V0 15)), (2, (V0 16)), (3, (V0 20))]) w (okX R0 w p0_21)) fun p0_21 =>
  postX R0 (fun p0_n12 => allX R0 w fun V0 w => p0_10 (V0 10) w ∧ p0_11 (V0 11) w ∧ p0_12 (V0 12) w ∧ p0_13 (V0 13) w ∧ True → kU P (Instr.storeAt 42 v8 (V0 13)) w (okX R0 w p0_n12)) fun p0_n12 =>
  allX R0 w fun V0 w => p0_10 (V0 10) w ∧ p0_11 (V0 11) w ∧ p0_12 (V0 12) w ∧ p0_13 (V0 13) w ∧ p0_14 (V0 14) w ∧ p0_15 (V0 15) w ∧ p0_16 (V0 16) w ∧ p0_17 (V0 17) w ∧ p0_18 (V0 18) w ∧ p0_19 (V0 19) w ∧ p0_20 (V0 20) w ∧ p0_21 (V0 21) w ∧ (∃ u, p0_n12 u w) ∧ True → xDist V0 [] →
  kU P (Instr.storeAt 51 v9 (V0 21)) w fun _ w =>
  retV P 42 v8 w fun r1 =>
  retV P 51 v9 w fun r2 =>
  K (.tuple #[r1, r2]) w) w
theorem F30_eq (P : Program) (t0 t1 t2 t3 : Value) (w : World) (K : Value → World → Prop) : funE P ⟨[(1, 1013)], [], []⟩ Tryz.f30 [t0, t1, t2, t3] w K = F30 P t0 t1 t2 t3 w K := by kernel_rfl
theorem F30_ok (t0 t1 t2 t3 : Value) (w : World) (K : Value → World → Prop) (h : F30 Tryz.prog t0 t1 t2 t3 w K) : callsK Tryz.prog 30 #[t0, t1, t2, t3] w K := calls_of_eq mixedX Tryz.func30 (F30_eq _ t0 t1 t2 t3 w K) h

/-- mintmark/inst.Decode -/
def F31 (P : Program) (t0 : Value) (w : World) (K : Value → World → Prop) : Prop :=
  kV P (Instr.alloc 49 true (.tuple #[])) w fun v2 w =>
  kV P (convert 38 22 t0) w fun v14 w =>
  kN P (callN (.func (.func 68) #[] #[]) #[]) w fun v15 w =>
  loopT (fun R0 s0 w => ∀ _ : Nat → Value,
  kV P (binV .lss 3 (.tmp 16) (.const (.int .i64 69)) (s0.getD 0 undef) (.int .i64 69)) w fun v17 w =>
  condK v17
  (kV P (Instr.index 160 v15 (s0.getD 0 undef)) w fun v19 w =>
  kV P (Instr.alloc 101 true (.tuple #[])) w fun v6 w =>
  kU P (Instr.storeAt 101 v6 v19) w fun _ w =>
  kV P (Instr.loadAt 101 v6) w fun v21 w =>
  kN P (callN (.func (.func 37) #[] #[]) #[v21]) w fun v22 w =>
  kV P (Instr.extract v22 0) w fun v23 w =>
  kV P (Instr.extract v22 1) w fun v24 w =>
  kV P (binV .and 22 (.tmp 25) (.tmp 26) v14 v24) w fun v27 w =>
  kV P (binV .neq 22 (.tmp 27) (.tmp 28) v27 v23) w fun v29 w =>
  condK v29
  (kV P (binV .add 3 (.tmp 16) (.const (.int .i64 1)) (s0.getD 0 undef) (.int .i64 1)) w fun v61 w =>
  R0 [v61] w)
  (kV P (binV .add 3 (.tmp 30) (.const (.int .i64 1)) (s0.getD 0 undef) (.int .i64 1)) w fun v31 w =>
  kV P (Instr.fieldAt 101 v6 1) w fun v32 w =>
  kV P (Instr.loadAt 5 v32) w fun v33 w =>
  kN P (callN (.func (.func 35) #[] #[]) #[v33]) w fun v34 w =>
  kN P (callN (.func (.func 69) #[] #[]) #[v34, v14]) w fun v36 w =>
  kV P (Instr.build 49 #[(0, v31), (4, v36)]) w fun v37 w =>
  kV P (Instr.alloc 49 true (.tuple #[])) w fun v9 w =>
  kU P (Instr.storeAt 49 v9 v37) w fun _ w =>
  kV P (Instr.fieldAt 101 v6 1) w fun v39 w =>
  kV P (Instr.loadAt 5 v39) w fun v40 w =>
  kN P (callN (.func (.func 38) #[] #[]) #[v40]) w fun v41 w =>
  kV P (Instr.extract v41 0) w fun v42 w =>
  kV P (Instr.extract v41 1) w fun v43 w =>
  kV P (Instr.extract v41 2) w fun v44 w =>
  joinL (fun J2 =>
  condK v42
  (kN P (callN (.func (.func 43) #[] #[]) #[v14, (.int .i64 7), (.int .i64 5)]) w fun v47 w =>
  kV P (convert 22 3 v47) w fun v48 w =>
  kV P (Instr.fieldAt 49 v9 1) w fun v49 w =>
  kU P (Instr.storeAt 3 v49 v48) w fun _ w =>
  J2 [] w)
  (J2 [] w)) fun s2 w => ∀ _ : Nat → Value,
  joinL (fun J4 =>
  condK v43
  (kN P (callN (.func (.func 43) #[] #[]) #[v14, (.int .i64 15), (.int .i64 5)]) w fun v52 w =>
  kV P (convert 22 3 v52) w fun v53 w =>
  kV P (Instr.fieldAt 49 v9 2) w fun v54 w =>
  kU P (Instr.storeAt 3 v54 v53) w fun _ w =>
  J4 [] w)
  (J4 [] w)) fun s4 w => ∀ _ : Nat → Value,
  joinL (fun J6 =>
  condK v44
  (kN P (callN (.func (.func 43) #[] #[]) #[v14, (.int .i64 20), (.int .i64 5)]) w fun v57 w =>
  kV P (convert 22 3 v57) w fun v58 w =>
  kV P (Instr.fieldAt 49 v9 3) w fun v59 w =>
  kU P (Instr.storeAt 3 v59 v58) w fun _ w =>
  J6 [] w)
  (J6 [] w)) fun s6 w => ∀ _ : Nat → Value,
  kV P (Instr.loadAt 49 v9) w fun v60 w =>
  kU P (Instr.storeAt 49 v2 v60) w fun _ w =>
  retV P 49 v2 w fun r8 =>
  K (.tuple #[r8, (.bool true)]) w))
  (kV P (Instr.build 49 #[]) w fun v62 w =>
  kU P (Instr.storeAt 49 v2 v62) w fun _ w =>
  retV P 49 v2 w fun r9 =>
  K (.tuple #[r9, (.bool false)]) w)) [(.int .i64 0)] w
theorem F31_eq (P : Program) (t0 : Value) (w : World) (K : Value → World → Prop) : funE P ⟨[], [(3, [16])], [(11, []), (13, []), (15, [])]⟩ Tryz.f31 [t0] w K = F31 P t0 w K := by kernel_rfl
theorem F31_ok (t0 : Value) (w : World) (K : Value → World → Prop) (h : F31 Tryz.prog t0 w K) : callsK Tryz.prog 31 #[t0] w K := calls_of_eq mixedX Tryz.func31 (F31_eq _ t0 w K) h

/-- (*mintmark/exec.run).run -/
def F32 (P : Program) (t0 : Value) (w : World) (K : Value → World → Prop) : Prop :=
  kV P (Instr.alloc 42 true (.tuple #[])) w fun v2 w =>
  kV P (Instr.alloc 51 true (.tuple #[])) w fun v3 w =>
  kN P (nilN t0) w fun v9 w =>
  kV P (Instr.fieldAt 91 v9 3) w fun v10 w =>
  kV P (Instr.fieldAt 49 v10 0) w fun v11 w =>
  kV P (Instr.loadAt 3 v11) w fun v12 w =>
  kN P (callN (.func (.func 70) #[] #[]) #[v12]) w fun v15 w =>
  condK v15
  (kN P (callN (.func (.func 71) #[] #[]) #[t0]) w fun v17 w =>
  kV P (Instr.extract v17 0) w fun v18 w =>
  kV P (Instr.extract v17 1) w fun v19 w =>
  kU P (Instr.storeAt 42 v2 v18) w fun _ w =>
  kU P (Instr.storeAt 51 v3 v19) w fun _ w =>
  retV P 42 v2 w fun r0 =>
  retV P 51 v3 w fun r1 =>
  K (.tuple #[r0, r1]) w)
  (kN P (callN (.func (.func 72) #[] #[]) #[v12]) w fun v22 w =>
  kV P (binV .gtr 3 (.tmp 22) (.const (.int .i64 0)) v22 (.int .i64 0)) w fun v23 w =>
  condK v23
  (kN P (callN (.func (.func 72) #[] #[]) #[v12]) w fun v26 w =>
  kN P (callN (.func (.func 73) #[] #[]) #[t0, v26]) w fun v27 w =>
  kV P (Instr.extract v27 0) w fun v28 w =>
  kV P (Instr.extract v27 1) w fun v29 w =>
  kU P (Instr.storeAt 42 v2 v28) w fun _ w =>
  kU P (Instr.storeAt 51 v3 v29) w fun _ w =>
  retV P 42 v2 w fun r2 =>
  retV P 51 v3 w fun r3 =>
  K (.tuple #[r2, r3]) w)
  (kV P (binV .eql 3 (.tmp 30) (.const (.int .i64 3)) v12 (.int .i64 3)) w fun v32 w =>
  condK v32
  (joinL (fun J4 =>
  drewK (fun w =>
  relX fun R8 =>
  postX R8 (fun p8_33 => allX R8 w fun V8 w => True → (okX R8 w p8_33) t0 w) fun p8_33 =>
  postX R8 (fun p8_34 => allX R8 w fun V8 w => True → (okX R8 w p8_34) t0 w) fun p8_34 =>
  postX R8 (fun p8_35 => allX R8 w fun V8 w => p8_34 (V8 34) w ∧ True → kN P (nilN (V8 34)) w (okX R8 w p8_35)) fun p8_35 =>
  postX R8 (fun p8_36 => allX R8 w fun V8 w => p8_35 (V8 35) w ∧ True → kV P (Instr.fieldAt 91 (V8 35) 1) w (okX R8 w p8_36)) fun p8_36 =>
  postX R8 (fun p8_37 => allX R8 w fun V8 w => p8_36 (V8 36) w ∧ True → kV P (Instr.fieldAt 42 (V8 36) 1) w (okX R8 w p8_37)) fun p8_37 =>
  postX R8 (fun p8_38 => allX R8 w fun V8 w => p8_37 (V8 37) w ∧ True → kV P (Instr.loadAt 24 (V8 37)) w (okX R8 w p8_38)) fun p8_38 =>
  postX R8 (fun p8_39 => allX R8 w fun V8 w => True → (okX R8 w p8_39) t0 w) fun p8_39 =>
  postX R8 (fun p8_40 => allX R8 w fun V8 w => p8_39 (V8 39) w ∧ True → kN P (nilN (V8 39)) w (okX R8 w p8_40)) fun p8_40 =>
  postX R8 (fun p8_41 => allX R8 w fun V8 w => p8_40 (V8 40) w ∧ True → kV P (Instr.fieldAt 91 (V8 40) 3) w (okX R8 w p8_41)) fun p8_41 =>
  postX R8 (fun p8_42 => allX R8 w fun V8 w => p8_41 (V8 41) w ∧ True → kV P (Instr.fieldAt 49 (V8 41) 4) w (okX R8 w p8_42)) fun p8_42 =>
  postX R8 (fun p8_43 => allX R8 w fun V8 w => p8_42 (V8 42) w ∧ True → kV P (Instr.loadAt 2 (V8 42)) w (okX R8 w p8_43)) fun p8_43 =>
  postX R8 (fun p8_44 => allX R8 w fun V8 w => p8_43 (V8 43) w ∧ True → kV P (convert 2 22 (V8 43)) w (okX R8 w p8_44)) fun p8_44 =>
  postX R8 (fun p8_45 => allX R8 w fun V8 w => p8_38 (V8 38) w ∧ p8_44 (V8 44) w ∧ True → kN P (callN (.func (.func 16) #[] #[]) #[(V8 38), (V8 44)]) w (okX R8 w p8_45)) fun p8_45 =>
  allX R8 w fun V8 w => p8_33 (V8 33) w ∧ p8_34 (V8 34) w ∧ p8_35 (V8 35) w ∧ p8_36 (V8 36) w ∧ p8_37 (V8 37) w ∧ p8_38 (V8 38) w ∧ p8_39 (V8 39) w ∧ p8_40 (V8 40) w ∧ p8_41 (V8 41) w ∧ p8_42 (V8 42) w ∧ p8_43 (V8 43) w ∧ p8_44 (V8 44) w ∧ p8_45 (V8 45) w ∧ True → xDist V8 [] →
  kN P (nilN (V8 33)) w fun v46 w =>
  kV P (Instr.fieldAt 91 v46 0) w fun v47 w =>
  kV P (Instr.fieldAt 42 v47 1) w fun v48 w =>
  kU P (Instr.storeAt 24 v48 (V8 45)) w fun _ w =>
  J4 [] w) w) fun s4 w => ∀ _ : Nat → Value,
  kN P (nilN t0) w fun v51 w =>
  kV P (Instr.fieldAt 91 v51 1) w fun v52 w =>
  kV P (Instr.loadAt 42 v52) w fun v53 w =>
  kN P (callN (.func (.func 28) #[] #[]) #[v53]) w fun v54 w =>
  kV P (Instr.field 42 v54 1) w fun v55 w =>
  kN P (callN (.func (.func 75) #[] #[]) #[v55]) w fun v56 w =>
  kN P (callN (.func (.func 74) #[] #[]) #[t0, v56]) w fun v57 w =>
  kV P (Instr.extract v57 0) w fun v58 w =>
  kV P (Instr.extract v57 1) w fun v59 w =>
  kU P (Instr.storeAt 42 v2 v58) w fun _ w =>
  kU P (Instr.storeAt 51 v3 v59) w fun _ w =>
  retV P 42 v2 w fun r6 =>
  retV P 51 v3 w fun r7 =>
  K (.tuple #[r6, r7]) w)
  (kV P (binV .eql 3 (.tmp 30) (.const (.int .i64 4)) v12 (.int .i64 4)) w fun v61 w =>
  condK v61
  (kN P (callN (.func (.func 76) #[] #[]) #[t0]) w fun v63 w =>
  kV P (Instr.extract v63 0) w fun v64 w =>
  kV P (Instr.extract v63 1) w fun v65 w =>
  kU P (Instr.storeAt 42 v2 v64) w fun _ w =>
  kU P (Instr.storeAt 51 v3 v65) w fun _ w =>
  retV P 42 v2 w fun r9 =>
  retV P 51 v3 w fun r10 =>
  K (.tuple #[r9, r10]) w)
  (kV P (binV .eql 3 (.tmp 30) (.const (.int .i64 1)) v12 (.int .i64 1)) w fun v67 w =>
  condK v67
  (kN P (nilN t0) w fun v70 w =>
  kV P (Instr.fieldAt 91 v70 3) w fun v71 w =>
  kV P (Instr.fieldAt 49 v71 4) w fun v72 w =>
  kV P (Instr.loadAt 2 v72) w fun v73 w =>
  kV P (convert 2 22 v73) w fun v74 w =>
  kN P (callN (.func (.func 77) #[] #[]) #[t0, v74]) w fun v75 w =>
  kV P (Instr.extract v75 0) w fun v76 w =>
  kV P (Instr.extract v75 1) w fun v77 w =>
  kU P (Instr.storeAt 42 v2 v76) w fun _ w =>
  kU P (Instr.storeAt 51 v3 v77) w fun _ w =>
  retV P 42 v2 w fun r11 =>
  retV P 51 v3 w fun r12 =>
  K (.tuple #[r11, r12]) w)
  (kV P (binV .eql 3 (.tmp 30) (.const (.int .i64 2)) v12 (.int .i64 2)) w fun v79 w =>
  condK v79
  (drewK (fun w =>
  relX fun R13 =>
  postX R13 (fun p13_80 => allX R13 w fun V13 w => True → (okX R13 w p13_80) t0 w) fun p13_80 =>
  postX R13 (fun p13_81 => allX R13 w fun V13 w => True → (okX R13 w p13_81) t0 w) fun p13_81 =>
  postX R13 (fun p13_82 => allX R13 w fun V13 w => p13_81 (V13 81) w ∧ True → kN P (nilN (V13 81)) w (okX R13 w p13_82)) fun p13_82 =>
  postX R13 (fun p13_83 => allX R13 w fun V13 w => p13_82 (V13 82) w ∧ True → kV P (Instr.fieldAt 91 (V13 82) 1) w (okX R13 w p13_83)) fun p13_83 =>
  postX R13 (fun p13_84 => allX R13 w fun V13 w => p13_83 (V13 83) w ∧ True → kV P (Instr.fieldAt 42 (V13 83) 1) w (okX R13 w p13_84)) fun p13_84 =>
  postX R13 (fun p13_85 => allX R13 w fun V13 w => p13_84 (V13 84) w ∧ True → kV P (Instr.loadAt 24 (V13 84)) w (okX R13 w p13_85)) fun p13_85 =>
  postX R13 (fun p13_86 => allX R13 w fun V13 w => True → (okX R13 w p13_86) t0 w) fun p13_86 =>
  postX R13 (fun p13_87 => allX R13 w fun V13 w => p13_86 (V13 86) w ∧ True → kN P (nilN (V13 86)) w (okX R13 w p13_87)) fun p13_87 =>
  postX R13 (fun p13_88 => allX R13 w fun V13 w => p13_87 (V13 87) w ∧ True → kV P (Instr.fieldAt 91 (V13 87) 3) w (okX R13 w p13_88)) fun p13_88 =>
  postX R13 (fun p13_89 => allX R13 w fun V13 w => p13_88 (V13 88) w ∧ True → kV P (Instr.fieldAt 49 (V13 88) 4) w (okX R13 w p13_89)) fun p13_89 =>
  postX R13 (fun p13_90 => allX R13 w fun V13 w => p13_89 (V13 89) w ∧ True → kV P (Instr.loadAt 2 (V13 89)) w (okX R13 w p13_90)) fun p13_90 =>
  postX R13 (fun p13_91 => allX R13 w fun V13 w => p13_90 (V13 90) w ∧ True → kV P (convert 2 22 (V13 90)) w (okX R13 w p13_91)) fun p13_91 =>
  postX R13 (fun p13_92 => allX R13 w fun V13 w => p13_85 (V13 85) w ∧ p13_91 (V13 91) w ∧ True → kN P (callN (.func (.func 16) #[] #[]) #[(V13 85), (V13 91)]) w (okX R13 w p13_92)) fun p13_92 =>
  postX R13 (fun p13_93 => allX R13 w fun V13 w => p13_80 (V13 80) w ∧ p13_92 (V13 92) w ∧ True → kN P (callN (.func (.func 74) #[] #[]) #[(V13 80), (V13 92)]) w (okX R13 w p13_93)) fun p13_93 =>
  postX R13 (fun p13_94 => allX R13 w fun V13 w => p13_93 (V13 93) w ∧ True → kV P (Instr.extract (V13 93) 0) w (okX R13 w p13_94)) fun p13_94 =>
  postX R13 (fun p13_95 => allX R13 w fun V13 w => p13_93 (V13 93) w ∧ True → kV P (Instr.extract (V13 93) 1) w (okX R13 w p13_95)) fun p13_95 =>
  allX R13 w fun V13 w => p13_80 (V13 80) w ∧ p13_81 (V13 81) w ∧ p13_82 (V13 82) w ∧ p13_83 (V13 83) w ∧ p13_84 (V13 84) w ∧ p13_85 (V13 85) w ∧ p13_86 (V13 86) w ∧ p13_87 (V13 87) w ∧ p13_88 (V13 88) w ∧ p13_89 (V13 89) w ∧ p13_90 (V13 90) w ∧ p13_91 (V13 91) w ∧ p13_92 (V13 92) w ∧ p13_93 (V13 93) w ∧ p13_94 (V13 94) w ∧ p13_95 (V13 95) w ∧ True → xDist V13 [] →
  kU P (Instr.storeAt 42 v2 (V13 94)) w fun _ w =>
  kU P (Instr.storeAt 51 v3 (V13 95)) w fun _ w =>
  retV P 42 v2 w fun r14 =>
  retV P 51 v3 w fun r15 =>
  K (.tuple #[r14, r15]) w) w)
  (kV P (binV .eql 3 (.tmp 30) (.const (.int .i64 41)) v12 (.int .i64 41)) w fun v97 w =>
  condK v97
  (kN P (nilN t0) w fun v100 w =>
  kV P (Instr.fieldAt 91 v100 1) w fun v101 w =>
  kV P (Instr.fieldAt 42 v101 1) w fun v102 w =>
  kV P (Instr.fieldAt 24 v102 2) w fun v103 w =>
  kV P (Instr.loadAt 22 v103) w fun v104 w =>
  kN P (callN (.func (.func 30) #[] #[]) #[t0, (.int .i64 2), (.int .i64 0), v104]) w fun v105 w =>
  kV P (Instr.extract v105 0) w fun v106 w =>
  kV P (Instr.extract v105 1) w fun v107 w =>
  kU P (Instr.storeAt 42 v2 v106) w fun _ w =>
  kU P (Instr.storeAt 51 v3 v107) w fun _ w =>
  retV P 42 v2 w fun r16 =>
  retV P 51 v3 w fun r17 =>
  K (.tuple #[r16, r17]) w)
  (kV P (binV .eql 3 (.tmp 30) (.const (.int .i64 42)) v12 (.int .i64 42)) w fun v109 w =>
  condK v109
  (kN P (nilN t0) w fun v112 w =>
  kV P (Instr.fieldAt 91 v112 1) w fun v113 w =>
  kV P (Instr.fieldAt 42 v113 1) w fun v114 w =>
  kV P (Instr.fieldAt 24 v114 2) w fun v115 w =>
  kV P (Instr.loadAt 22 v115) w fun v116 w =>
  kN P (callN (.func (.func 30) #[] #[]) #[t0, (.int .i64 3), (.int .i64 0), v116]) w fun v117 w =>
  kV P (Instr.extract v117 0) w fun v118 w =>
  kV P (Instr.extract v117 1) w fun v119 w =>
  kU P (Instr.storeAt 42 v2 v118) w fun _ w =>
  kU P (Instr.storeAt 51 v3 v119) w fun _ w =>
  retV P 42 v2 w fun r18 =>
  retV P 51 v3 w fun r19 =>
  K (.tuple #[r18, r19]) w)
  (kN P (nilN t0) w fun v121 w =>
  kV P (Instr.fieldAt 91 v121 5) w fun v122 w =>
  kV P (Instr.fieldAt 24 v122 2) w fun v123 w =>
  kV P (Instr.loadAt 22 v123) w fun v124 w =>
  joinL (fun J20 =>
  kN P (callN (.func (.func 78) #[] #[]) #[v12]) w fun v126 w =>
  condK v126
  (kN P (nilN t0) w fun v128 w =>
  kV P (Instr.fieldAt 91 v128 3) w fun v129 w =>
  kV P (Instr.fieldAt 49 v129 4) w fun v130 w =>
  kV P (Instr.loadAt 2 v130) w fun v131 w =>
  kV P (convert 2 22 v131) w fun v132 w =>
  J20 [v132] w)
  (J20 [v124] w)) fun s20 w => ∀ _ : Nat → Value,
  kN P (nilN t0) w fun v136 w =>
  kV P (Instr.fieldAt 91 v136 4) w fun v137 w =>
  kV P (Instr.fieldAt 24 v137 2) w fun v138 w =>
  kV P (Instr.loadAt 22 v138) w fun v139 w =>
  kN P (callN (.func (.func 79) #[] #[]) #[v12, v139, (s20.getD 0 undef)]) w fun v141 w =>
  kV P (Instr.extract v141 0) w fun v142 w =>
  kV P (Instr.extract v141 1) w fun v143 w =>
  condK v143
  (kN P (callN (.func (.func 77) #[] #[]) #[t0, v142]) w fun v147 w =>
  kV P (Instr.extract v147 0) w fun v148 w =>
  kV P (Instr.extract v147 1) w fun v149 w =>
  kU P (Instr.storeAt 42 v2 v148) w fun _ w =>
  kU P (Instr.storeAt 51 v3 v149) w fun _ w =>
  retV P 42 v2 w fun r22 =>
  retV P 51 v3 w fun r23 =>
  K (.tuple #[r22, r23]) w)
  (kN P (callN (.func (.func 80) #[] #[]) #[t0]) w fun v151 w =>
  kV P (Instr.extract v151 0) w fun v152 w =>
  kV P (Instr.extract v151 1) w fun v153 w =>
  kU P (Instr.storeAt 42 v2 v152) w fun _ w =>
  kU P (Instr.storeAt 51 v3 v153) w fun _ w =>
  retV P 42 v2 w fun r24 =>
  retV P 51 v3 w fun r25 =>
  K (.tuple #[r24, r25]) w)))))))))
theorem F32_eq (P : Program) (t0 : Value) (w : World) (K : Value → World → Prop) : funE P ⟨[(15, 1016), (8, 1013)], [], [(23, [5]), (9, [])]⟩ Tryz.f32 [t0] w K = F32 P t0 w K := by kernel_rfl
theorem F32_ok (t0 : Value) (w : World) (K : Value → World → Prop) (h : F32 Tryz.prog t0 w K) : callsK Tryz.prog 32 #[t0] w K := calls_of_eq mixedX Tryz.func32 (F32_eq _ t0 w K) h

/-- mintmark/capab.Null -/
def F33 (P : Program) (t0 : Value) (w : World) (K : Value → World → Prop) : Prop :=
  kV P (Instr.alloc 24 true (.tuple #[])) w fun v2 w =>
  kV P (Instr.build 24 #[(2, t0)]) w fun v4 w =>
  kU P (Instr.storeAt 24 v2 v4) w fun _ w =>
  retV P 24 v2 w fun r0 =>
  K r0 w
theorem F33_eq (P : Program) (t0 : Value) (w : World) (K : Value → World → Prop) : funE P ⟨[], [], []⟩ Tryz.f33 [t0] w K = F33 P t0 w K := by kernel_rfl
theorem F33_ok (t0 : Value) (w : World) (K : Value → World → Prop) (h : F33 Tryz.prog t0 w K) : callsK Tryz.prog 33 #[t0] w K := calls_of_eq mixedX Tryz.func33 (F33_eq _ t0 w K) h

/-- mintmark/inst.laid -/
def F35 (P : Program) (t0 : Value) (w : World) (K : Value → World → Prop) : Prop :=
  kV P (Instr.alloc 106 true (.tuple #[])) w fun v2 w =>
  joinL (fun J0 =>
  kV P (binV .eql 5 (.tmp 3) (.const (.int .u8 73)) t0 (.int .u8 73)) w fun v5 w =>
  condK v5
  (J0 [v5] w)
  (kV P (binV .eql 5 (.tmp 3) (.const (.int .u8 67)) t0 (.int .u8 67)) w fun v6 w =>
  J0 [v6] w)) fun s0 w => ∀ _ : Nat → Value,
  condK (s0.getD 0 undef)
  (kV P (Instr.build 169 #[(0, (.int .i64 0)), (1, (.int .i64 12)), (2, (.int .i64 20))]) w fun v7 w =>
  kV P (Instr.buildSlice 104 1 #[(0, v7)]) w fun v8 w =>
  kV P (binV .eql 5 (.tmp 9) (.const (.int .u8 73)) t0 (.int .u8 73)) w fun v10 w =>
  kV P (Instr.build 106 #[(0, v8), (1, (.int .i64 12)), (2, v10), (3, (.int .i64 0))]) w fun v11 w =>
  kU P (Instr.storeAt 106 v2 v11) w fun _ w =>
  retV P 106 v2 w fun r2 =>
  K r2 w)
  (kV P (binV .eql 5 (.tmp 3) (.const (.int .u8 72)) t0 (.int .u8 72)) w fun v13 w =>
  condK v13
  (kV P (Instr.build 169 #[(0, (.int .i64 0)), (1, (.int .i64 6)), (2, (.int .i64 20))]) w fun v14 w =>
  kV P (Instr.buildSlice 104 1 #[(0, v14)]) w fun v15 w =>
  kV P (Instr.build 106 #[(0, v15), (1, (.int .i64 6)), (2, (.bool false)), (3, (.int .i64 0))]) w fun v16 w =>
  kU P (Instr.storeAt 106 v2 v16) w fun _ w =>
  retV P 106 v2 w fun r3 =>
  K r3 w)
  (kV P (binV .eql 5 (.tmp 3) (.const (.int .u8 83)) t0 (.int .u8 83)) w fun v18 w =>
  condK v18
  (kV P (Instr.build 169 #[(0, (.int .i64 0)), (1, (.int .i64 5)), (2, (.int .i64 7))]) w fun v19 w =>
  kV P (Instr.build 169 #[(0, (.int .i64 5)), (1, (.int .i64 7)), (2, (.int .i64 25))]) w fun v20 w =>
  kV P (Instr.buildSlice 104 2 #[(0, v19), (1, v20)]) w fun v21 w =>
  kV P (Instr.build 106 #[(0, v21), (1, (.int .i64 12)), (2, (.bool true)), (3, (.int .i64 0))]) w fun v22 w =>
  kU P (Instr.storeAt 106 v2 v22) w fun _ w =>
  retV P 106 v2 w fun r4 =>
  K r4 w)
  (kV P (binV .eql 5 (.tmp 3) (.const (.int .u8 66)) t0 (.int .u8 66)) w fun v24 w =>
  condK v24
  (kV P (Instr.build 169 #[(0, (.int .i64 1)), (1, (.int .i64 4)), (2, (.int .i64 8))]) w fun v25 w =>
  kV P (Instr.build 169 #[(0, (.int .i64 5)), (1, (.int .i64 6)), (2, (.int .i64 25))]) w fun v26 w =>
  kV P (Instr.build 169 #[(0, (.int .i64 11)), (1, (.int .i64 1)), (2, (.int .i64 7))]) w fun v27 w =>
  kV P (Instr.build 169 #[(0, (.int .i64 12)), (1, (.int .i64 1)), (2, (.int .i64 31))]) w fun v28 w =>
  kV P (Instr.buildSlice 104 4 #[(0, v25), (1, v26), (2, v27), (3, v28)]) w fun v29 w =>
  kV P (Instr.build 106 #[(0, v29), (1, (.int .i64 13)), (2, (.bool true)), (3, (.int .i64 1))]) w fun v30 w =>
  kU P (Instr.storeAt 106 v2 v30) w fun _ w =>
  retV P 106 v2 w fun r5 =>
  K r5 w)
  (kV P (binV .eql 5 (.tmp 3) (.const (.int .u8 85)) t0 (.int .u8 85)) w fun v32 w =>
  condK v32
  (kV P (Instr.build 169 #[(0, (.int .i64 12)), (1, (.int .i64 20)), (2, (.int .i64 12))]) w fun v33 w =>
  kV P (Instr.buildSlice 104 1 #[(0, v33)]) w fun v34 w =>
  kV P (Instr.build 106 #[(0, v34), (1, (.int .i64 32)), (2, (.bool true)), (3, (.int .i64 12))]) w fun v35 w =>
  kU P (Instr.storeAt 106 v2 v35) w fun _ w =>
  retV P 106 v2 w fun r6 =>
  K r6 w)
  (kV P (binV .eql 5 (.tmp 3) (.const (.int .u8 74)) t0 (.int .u8 74)) w fun v37 w =>
  condK v37
  (kV P (Instr.build 169 #[(0, (.int .i64 12)), (1, (.int .i64 8)), (2, (.int .i64 12))]) w fun v38 w =>
  kV P (Instr.build 169 #[(0, (.int .i64 11)), (1, (.int .i64 1)), (2, (.int .i64 20))]) w fun v39 w =>
  kV P (Instr.build 169 #[(0, (.int .i64 1)), (1, (.int .i64 10)), (2, (.int .i64 21))]) w fun v40 w =>
  kV P (Instr.build 169 #[(0, (.int .i64 20)), (1, (.int .i64 1)), (2, (.int .i64 31))]) w fun v41 w =>
  kV P (Instr.buildSlice 104 4 #[(0, v38), (1, v39), (2, v40), (3, v41)]) w fun v42 w =>
  kV P (Instr.build 106 #[(0, v42), (1, (.int .i64 21)), (2, (.bool true)), (3, (.int .i64 1))]) w fun v43 w =>
  kU P (Instr.storeAt 106 v2 v43) w fun _ w =>
  retV P 106 v2 w fun r7 =>
  K r7 w)
  (kV P (Instr.build 106 #[]) w fun v44 w =>
  kU P (Instr.storeAt 106 v2 v44) w fun _ w =>
  retV P 106 v2 w fun r8 =>
  K r8 w))))))
theorem F35_eq (P : Program) (t0 : Value) (w : World) (K : Value → World → Prop) : funE P ⟨[], [], [(4, [4])]⟩ Tryz.f35 [t0] w K = F35 P t0 w K := by kernel_rfl
theorem F35_ok (t0 : Value) (w : World) (K : Value → World → Prop) (h : F35 Tryz.prog t0 w K) : callsK Tryz.prog 35 #[t0] w K := calls_of_eq mixedX Tryz.func35 (F35_eq _ t0 w K) h

/-- (mintmark/inst.row).fixed -/
def F37 (P : Program) (t0 : Value) (w : World) (K : Value → World → Prop) : Prop :=
  kV P (Instr.box 101 t0) w fun v1 w =>
  kV P (Instr.alloc 22 true (.tuple #[])) w fun v2 w =>
  kV P (Instr.alloc 22 true (.tuple #[])) w fun v3 w =>
  kV P (Instr.fieldAt 101 v1 2) w fun v7 w =>
  kV P (Instr.loadAt 22 v7) w fun v8 w =>
  kN P (callN (.func (.func 82) #[] #[v2, v3]) #[(.int .i64 0), (.int .i64 7), v8]) w fun v9 w =>
  kV P (Instr.fieldAt 101 v1 1) w fun v10 w =>
  kV P (Instr.loadAt 5 v10) w fun v11 w =>
  joinL (fun J0 =>
  kV P (binV .eql 5 (.tmp 11) (.const (.int .u8 85)) v11 (.int .u8 85)) w fun v13 w =>
  condK v13
  (J0 [v13] w)
  (kV P (binV .eql 5 (.tmp 11) (.const (.int .u8 74)) v11 (.int .u8 74)) w fun v14 w =>
  J0 [v14] w)) fun s0 w => ∀ _ : Nat → Value,
  condK (s0.getD 0 undef)
  (drewK (fun w =>
  relX fun R2 =>
  postX R2 (fun p2_15 => allX R2 w fun V2 w => True → kV P (Instr.loadAt 22 v2) w (okX R2 w p2_15)) fun p2_15 =>
  postX R2 (fun p2_16 => allX R2 w fun V2 w => True → kV P (Instr.loadAt 22 v3) w (okX R2 w p2_16)) fun p2_16 =>
  postX R2 (fun p2_n2 => allX R2 w fun V2 w => p2_15 (V2 15) w ∧ True → kU P (Instr.storeAt 22 v2 (V2 15)) w (okX R2 w p2_n2)) fun p2_n2 =>
  allX R2 w fun V2 w => p2_15 (V2 15) w ∧ p2_16 (V2 16) w ∧ (∃ u, p2_n2 u w) ∧ True → xDist V2 [] →
  kU P (Instr.storeAt 22 v3 (V2 16)) w fun _ w =>
  retV P 22 v2 w fun r3 =>
  retV P 22 v3 w fun r4 =>
  K (.tuple #[r3, r4]) w) w)
  (kV P (binV .eql 5 (.tmp 11) (.const (.int .u8 78)) v11 (.int .u8 78)) w fun v18 w =>
  condK v18
  (kN P (callN (.func (.func 82) #[] #[v2, v3]) #[(.int .i64 7), (.int .i64 13), (.int .u64 0)]) w fun v20 w =>
  kV P (Instr.fieldAt 101 v1 4) w fun v22 w =>
  kV P (Instr.loadAt 22 v22) w fun v23 w =>
  kN P (callN (.func (.func 82) #[] #[v2, v3]) #[(.int .i64 20), (.int .i64 12), v23]) w fun v24 w =>
  drewK (fun w =>
  relX fun R5 =>
  postX R5 (fun p5_25 => allX R5 w fun V5 w => True → kV P (Instr.loadAt 22 v2) w (okX R5 w p5_25)) fun p5_25 =>
  postX R5 (fun p5_26 => allX R5 w fun V5 w => True → kV P (Instr.loadAt 22 v3) w (okX R5 w p5_26)) fun p5_26 =>
  postX R5 (fun p5_n2 => allX R5 w fun V5 w => p5_25 (V5 25) w ∧ True → kU P (Instr.storeAt 22 v2 (V5 25)) w (okX R5 w p5_n2)) fun p5_n2 =>
  allX R5 w fun V5 w => p5_25 (V5 25) w ∧ p5_26 (V5 26) w ∧ (∃ u, p5_n2 u w) ∧ True → xDist V5 [] →
  kU P (Instr.storeAt 22 v3 (V5 26)) w fun _ w =>
  retV P 22 v2 w fun r6 =>
  retV P 22 v3 w fun r7 =>
  K (.tuple #[r6, r7]) w) w)
  (kV P (Instr.fieldAt 101 v1 3) w fun v28 w =>
  kV P (Instr.loadAt 22 v28) w fun v29 w =>
  kN P (callN (.func (.func 82) #[] #[v2, v3]) #[(.int .i64 12), (.int .i64 3), v29]) w fun v30 w =>
  joinL (fun J8 =>
  kV P (Instr.fieldAt 101 v1 1) w fun v31 w =>
  kV P (Instr.loadAt 5 v31) w fun v32 w =>
  kV P (binV .eql 5 (.tmp 32) (.const (.int .u8 82)) v32 (.int .u8 82)) w fun v34 w =>
  condK v34
  (kV P (Instr.fieldAt 101 v1 4) w fun v36 w =>
  kV P (Instr.loadAt 22 v36) w fun v37 w =>
  kN P (callN (.func (.func 82) #[] #[v2, v3]) #[(.int .i64 25), (.int .i64 7), v37]) w fun v38 w =>
  J8 [] w)
  (kV P (binV .eql 5 (.tmp 32) (.const (.int .u8 71)) v32 (.int .u8 71)) w fun v40 w =>
  condK v40
  (kV P (Instr.fieldAt 101 v1 4) w fun v42 w =>
  kV P (Instr.loadAt 22 v42) w fun v43 w =>
  kN P (callN (.func (.func 82) #[] #[v2, v3]) #[(.int .i64 20), (.int .i64 5), v43]) w fun v44 w =>
  kN P (callN (.func (.func 82) #[] #[v2, v3]) #[(.int .i64 25), (.int .i64 7), (.int .u64 127)]) w fun v46 w =>
  J8 [] w)
  (kV P (binV .eql 5 (.tmp 32) (.const (.int .u8 72)) v32 (.int .u8 72)) w fun v48 w =>
  condK v48
  (kV P (Instr.fieldAt 101 v1 4) w fun v50 w =>
  kV P (Instr.loadAt 22 v50) w fun v51 w =>
  kN P (callN (.func (.func 82) #[] #[v2, v3]) #[(.int .i64 26), (.int .i64 6), v51]) w fun v52 w =>
  J8 [] w)
  (J8 [] w)))) fun s8 w => ∀ _ : Nat → Value,
  drewK (fun w =>
  relX fun R10 =>
  postX R10 (fun p10_53 => allX R10 w fun V10 w => True → kV P (Instr.loadAt 22 v2) w (okX R10 w p10_53)) fun p10_53 =>
  postX R10 (fun p10_54 => allX R10 w fun V10 w => True → kV P (Instr.loadAt 22 v3) w (okX R10 w p10_54)) fun p10_54 =>
  postX R10 (fun p10_n2 => allX R10 w fun V10 w => p10_53 (V10 53) w ∧ True → kU P (Instr.storeAt 22 v2 (V10 53)) w (okX R10 w p10_n2)) fun p10_n2 =>
  allX R10 w fun V10 w => p10_53 (V10 53) w ∧ p10_54 (V10 54) w ∧ (∃ u, p10_n2 u w) ∧ True → xDist V10 [] →
  kU P (Instr.storeAt 22 v3 (V10 54)) w fun _ w =>
  retV P 22 v2 w fun r11 =>
  retV P 22 v3 w fun r12 =>
  K (.tuple #[r11, r12]) w) w))
theorem F37_eq (P : Program) (t0 : Value) (w : World) (K : Value → World → Prop) : funE P ⟨[(20, 1003), (10, 1003), (6, 1003)], [], [(6, [12]), (20, [])]⟩ Tryz.f37 [t0] w K = F37 P t0 w K := by kernel_rfl
theorem F37_ok (t0 : Value) (w : World) (K : Value → World → Prop) (h : F37 Tryz.prog t0 w K) : callsK Tryz.prog 37 #[t0] w K := calls_of_eq mixedX Tryz.func37 (F37_eq _ t0 w K) h

/-- mintmark/inst.has -/
def F38 (P : Program) (t0 : Value) (w : World) (K : Value → World → Prop) : Prop :=
  kV P (binV .eql 5 (.tmp 5) (.const (.int .u8 82)) t0 (.int .u8 82)) w fun v7 w =>
  condK v7
  (K (.tuple #[(.bool true), (.bool true), (.bool true)]) w)
  (joinL (fun J0 =>
  kV P (binV .eql 5 (.tmp 5) (.const (.int .u8 71)) t0 (.int .u8 71)) w fun v9 w =>
  condK v9
  (J0 [v9] w)
  (kV P (binV .eql 5 (.tmp 5) (.const (.int .u8 73)) t0 (.int .u8 73)) w fun v10 w =>
  condK v10
  (J0 [v10] w)
  (kV P (binV .eql 5 (.tmp 5) (.const (.int .u8 67)) t0 (.int .u8 67)) w fun v11 w =>
  condK v11
  (J0 [v11] w)
  (kV P (binV .eql 5 (.tmp 5) (.const (.int .u8 72)) t0 (.int .u8 72)) w fun v12 w =>
  J0 [v12] w)))) fun s0 w => ∀ _ : Nat → Value,
  condK (s0.getD 0 undef)
  (K (.tuple #[(.bool true), (.bool true), (.bool false)]) w)
  (joinL (fun J2 =>
  kV P (binV .eql 5 (.tmp 5) (.const (.int .u8 83)) t0 (.int .u8 83)) w fun v14 w =>
  condK v14
  (J2 [v14] w)
  (kV P (binV .eql 5 (.tmp 5) (.const (.int .u8 66)) t0 (.int .u8 66)) w fun v15 w =>
  J2 [v15] w)) fun s2 w => ∀ _ : Nat → Value,
  condK (s2.getD 0 undef)
  (K (.tuple #[(.bool false), (.bool true), (.bool true)]) w)
  (joinL (fun J4 =>
  kV P (binV .eql 5 (.tmp 5) (.const (.int .u8 85)) t0 (.int .u8 85)) w fun v17 w =>
  condK v17
  (J4 [v17] w)
  (kV P (binV .eql 5 (.tmp 5) (.const (.int .u8 74)) t0 (.int .u8 74)) w fun v18 w =>
  J4 [v18] w)) fun s4 w => ∀ _ : Nat → Value,
  condK (s4.getD 0 undef)
  (K (.tuple #[(.bool true), (.bool false), (.bool false)]) w)
  (K (.tuple #[(.bool false), (.bool false), (.bool false)]) w))))
theorem F38_eq (P : Program) (t0 : Value) (w : World) (K : Value → World → Prop) : funE P ⟨[], [], [(8, [8]), (11, [13]), (14, [16])]⟩ Tryz.f38 [t0] w K = F38 P t0 w K := by kernel_rfl
theorem F38_ok (t0 : Value) (w : World) (K : Value → World → Prop) (h : F38 Tryz.prog t0 w K) : callsK Tryz.prog 38 #[t0] w K := calls_of_eq mixedX Tryz.func38 (F38_eq _ t0 w K) h

/-- mintmark/algebra.Address -/
def F44 (P : Program) (t0 t1 : Value) (w : World) (K : Value → World → Prop) : Prop :=
  kV P (Instr.box 24 t0) w fun v2 w =>
  kV P (Instr.alloc 24 true (.tuple #[])) w fun v4 w =>
  kV P (Instr.loadAt 24 v2) w fun v8 w =>
  kN P (callN (.func (.func 45) #[] #[]) #[v8]) w fun v9 w =>
  kV P (Instr.alloc 121 true (.tuple #[])) w fun v5 w =>
  kU P (Instr.storeAt 121 v5 v9) w fun _ w =>
  kV P (Instr.fieldAt 24 v2 2) w fun v11 w =>
  kU P (Instr.storeAt 22 v11 t1) w fun _ w =>
  kV P (Instr.loadAt 24 v2) w fun v13 w =>
  kN P (callN (.func (.func 15) #[] #[]) #[v13]) w fun v14 w =>
  kV P (Instr.extract v14 0) w fun v15 w =>
  kV P (Instr.extract v14 1) w fun v16 w =>
  kV P (Instr.alloc 28 true (.tuple #[])) w fun v6 w =>
  kU P (Instr.storeAt 28 v6 v15) w fun _ w =>
  kV P (Instr.loadAt 121 v5) w fun v17 w =>
  kN P (callN (.func (.func 64) #[] #[]) #[v17]) w fun v18 w =>
  joinK (fun J0 : Value → World → Prop => gdK (yb v18) true (fun k => k v16 w) w fun v20 w =>
  kN P (pickN v18 v20 (.bool false)) w fun v21_1 w =>
  J0 v21_1 w) fun v21 w =>
  joinK (fun J1 : Value → World → Prop => gdK (yb v21) true (fun k => kV P (Instr.fieldAt 28 v6 0) w k) w fun v23 w =>
  gdK (yb v21) true (fun k => kV P (Instr.loadAt 26 v23) w k) w fun v24 w =>
  gdK (yb v21) true (fun k => kV P (Instr.fieldAt 121 v5 1) w k) w fun v25 w =>
  gdK (yb v21) true (fun k => kV P (Instr.fieldAt 28 v25 0) w k) w fun v26 w =>
  gdK (yb v21) true (fun k => kV P (Instr.loadAt 26 v26) w k) w fun v27 w =>
  gdK (yb v21) true (fun k => kV P (binV .eql 26 (.tmp 24) (.tmp 27) v24 v27) w k) w fun v28 w =>
  kN P (pickN v21 v28 (.bool false)) w fun v29_1 w =>
  J1 v29_1 w) fun v29 w =>
  kV P (Instr.fieldAt 24 v2 0) w fun v30 w =>
  kU P (Instr.storeAt 4 v30 v29) w fun _ w =>
  kV P (Instr.loadAt 24 v2) w fun v31 w =>
  kU P (Instr.storeAt 24 v4 v31) w fun _ w =>
  retV P 24 v4 w fun r2 =>
  K r2 w
theorem F44_eq (P : Program) (t0 t1 : Value) (w : World) (K : Value → World → Prop) : funE P ⟨[], [], []⟩ Tryz.f44 [t0, t1] w K = F44 P t0 t1 w K := by kernel_rfl
theorem F44_ok (t0 t1 : Value) (w : World) (K : Value → World → Prop) (h : F44 Tryz.prog t0 t1 w K) : callsK Tryz.prog 44 #[t0, t1] w K := calls_of_eq mixedX Tryz.func44 (F44_eq _ t0 t1 w K) h

/-- mintmark/algebra.of -/
def F45 (P : Program) (t0 : Value) (w : World) (K : Value → World → Prop) : Prop :=
  kV P (Instr.box 24 t0) w fun v1 w =>
  kV P (Instr.alloc 121 true (.tuple #[])) w fun v2 w =>
  kV P (Instr.loadAt 24 v1) w fun v6 w =>
  kN P (callN (.func (.func 15) #[] #[]) #[v6]) w fun v7 w =>
  kV P (Instr.extract v7 0) w fun v8 w =>
  kV P (Instr.extract v7 1) w fun v9 w =>
  kV P (Instr.alloc 28 true (.tuple #[])) w fun v3 w =>
  kU P (Instr.storeAt 28 v3 v8) w fun _ w =>
  drewK (fun w =>
  relX fun R0 =>
  postX R0 (fun p0_10 => allX R0 w fun V0 w => True → kV P (Instr.loadAt 24 v1) w (okX R0 w p0_10)) fun p0_10 =>
  postX R0 (fun p0_11 => allX R0 w fun V0 w => True → kV P (Instr.loadAt 28 v3) w (okX R0 w p0_11)) fun p0_11 =>
  postX R0 (fun p0_12 => allX R0 w fun V0 w => True → kV P (Instr.fieldAt 24 v1 0) w (okX R0 w p0_12)) fun p0_12 =>
  postX R0 (fun p0_13 => allX R0 w fun V0 w => p0_12 (V0 12) w ∧ True → kV P (Instr.loadAt 4 (V0 12)) w (okX R0 w p0_13)) fun p0_13 =>
  postX R0 (fun p0_14 => allX R0 w fun V0 w => p0_13 (V0 13) w ∧ True → (okX R0 w p0_14) (V0 13) w) fun p0_14 =>
  postX R0 (fun p0_15 => allX R0 w fun V0 w => p0_14 (V0 14) w ∧ True → gdK (yb (V0 14)) true (fun k => kV P (Instr.loadAt 24 v1) w k) w (okX R0 w p0_15)) fun p0_15 =>
  postX R0 (fun p0_16 => allX R0 w fun V0 w => p0_14 (V0 14) w ∧ p0_15 (V0 15) w ∧ True → gdK (yb (V0 14)) true (fun k => kN P (callN (.func (.func 86) #[] #[]) #[(V0 15)]) w k) w (okX R0 w p0_16)) fun p0_16 =>
  postX R0 (fun p0_17 => allX R0 w fun V0 w => p0_14 (V0 14) w ∧ p0_16 (V0 16) w ∧ True → kN P (pickN (V0 14) (V0 16) (.bool false)) w (okX R0 w p0_17)) fun p0_17 =>
  allX R0 w fun V0 w => p0_10 (V0 10) w ∧ p0_11 (V0 11) w ∧ p0_12 (V0 12) w ∧ p0_13 (V0 13) w ∧ p0_14 (V0 14) w ∧ p0_15 (V0 15) w ∧ p0_16 (V0 16) w ∧ p0_17 (V0 17) w ∧ True → xDist V0 [] →
  kV P (Instr.build 121 #[(0, (V0 10)), (1, (V0 11)), (2, (V0 17))]) w fun v18 w =>
  kU P (Instr.storeAt 121 v2 v18) w fun _ w =>
  retV P 121 v2 w fun r1 =>
  K r1 w) w
theorem F45_eq (P : Program) (t0 : Value) (w : World) (K : Value → World → Prop) : funE P ⟨[(2, 1008)], [], []⟩ Tryz.f45 [t0] w K = F45 P t0 w K := by kernel_rfl
theorem F45_ok (t0 : Value) (w : World) (K : Value → World → Prop) (h : F45 Tryz.prog t0 w K) : callsK Tryz.prog 45 #[t0] w K := calls_of_eq mixedX Tryz.func45 (F45_eq _ t0 w K) h

/-- mintmark/field.Lay -/
def F51 (P : Program) (t0 : Value) (w : World) (K : Value → World → Prop) : Prop :=
  kV P (Instr.alloc 22 true (.tuple #[])) w fun v3 w =>
  kU P (Instr.storeAt 22 v3 (.int .u64 0)) w fun _ w =>
  kV P (Builtin.len_ #[179] 3 #[t0]) w fun v9 w =>
  loopT (fun R0 s0 w => ∀ _ : Nat → Value,
  kV P (binV .lss 3 (.tmp 10) (.tmp 9) (s0.getD 0 undef) v9) w fun v11 w =>
  condK v11
  (kV P (Instr.indexAt 179 t0 (s0.getD 0 undef)) w fun v12 w =>
  kV P (Instr.loadAt 131 v12) w fun v13 w =>
  kV P (Instr.alloc 131 true (.tuple #[])) w fun v6 w =>
  kU P (Instr.storeAt 131 v6 v13) w fun _ w =>
  kV P (Instr.loadAt 131 v6) w fun v15 w =>
  kN P (callN (.func (.func 90) #[] #[v3]) #[v15]) w fun v16 w =>
  kV P (binV .add 3 (.tmp 10) (.const (.int .i64 1)) (s0.getD 0 undef) (.int .i64 1)) w fun v17 w =>
  R0 [v17] w)
  (kV P (Instr.loadAt 22 v3) w fun v18 w =>
  K v18 w)) [(.int .i64 0)] w
theorem F51_eq (P : Program) (t0 : Value) (w : World) (K : Value → World → Prop) : funE P ⟨[], [(4, [10])], []⟩ Tryz.f51 [t0] w K = F51 P t0 w K := by kernel_rfl
theorem F51_ok (t0 : Value) (w : World) (K : Value → World → Prop) (h : F51 Tryz.prog t0 w K) : callsK Tryz.prog 51 #[t0] w K := calls_of_eq mixedX Tryz.func51 (F51_eq _ t0 w K) h

/-- (mintmark/mintmarkref08.Ram).may -/
def F58 (P : Program) (t0 t1 t2 : Value) (w : World) (K : Value → World → Prop) : Prop :=
  kV P (Instr.box 35 t0) w fun v3 w =>
  kV P (binV .eql 3 (.tmp 7) (.const (.int .i64 1)) t2 (.int .i64 1)) w fun v8 w =>
  joinK (fun J0 : Value → World → Prop => gdK (yb v8) false (fun k => k t2 w) w fun v10 w =>
  gdK (yb v8) false (fun k => kV P (binV .eql 3 (.tmp 10) (.const (.int .i64 2)) v10 (.int .i64 2)) w k) w fun v11 w =>
  kN P (pickN v8 (.bool true) v11) w fun v12_1 w =>
  J0 v12_1 w) fun v12 w =>
  joinK (fun J1 : Value → World → Prop => gdK (yb v12) false (fun k => k t2 w) w fun v14 w =>
  gdK (yb v12) false (fun k => kV P (binV .eql 3 (.tmp 14) (.const (.int .i64 4)) v14 (.int .i64 4)) w k) w fun v15 w =>
  kN P (pickN v12 (.bool true) v15) w fun v16_1 w =>
  J1 v16_1 w) fun v16 w =>
  joinK (fun J2 : Value → World → Prop => gdK (yb v16) false (fun k => k t2 w) w fun v18 w =>
  gdK (yb v16) false (fun k => kV P (binV .eql 3 (.tmp 18) (.const (.int .i64 8)) v18 (.int .i64 8)) w k) w fun v19 w =>
  kN P (pickN v16 (.bool true) v19) w fun v20_1 w =>
  J2 v20_1 w) fun v20 w =>
  joinK (fun J3 : Value → World → Prop => gdK (yb v20) true (fun k => k t1 w) w fun v22 w =>
  gdK (yb v20) true (fun k => k t2 w) w fun v23 w =>
  gdK (yb v20) true (fun k => kV P (convert 3 22 v23) w k) w fun v24 w =>
  gdK (yb v20) true (fun k => kV P (binV .rem 22 (.tmp 22) (.tmp 24) v22 v24) w k) w fun v25 w =>
  gdK (yb v20) true (fun k => kV P (binV .eql 22 (.tmp 25) (.const (.int .u64 0)) v25 (.int .u64 0)) w k) w fun v26 w =>
  kN P (pickN v20 v26 (.bool false)) w fun v27_1 w =>
  J3 v27_1 w) fun v27 w =>
  joinK (fun J4 : Value → World → Prop => gdK (yb v27) true (fun k => k t1 w) w fun v29 w =>
  gdK (yb v27) true (fun k => kV P (Instr.loadAt 35 v3) w k) w fun v30 w =>
  gdK (yb v27) true (fun k => kN P (callN (.func (.func 62) #[] #[]) #[v30]) w k) w fun v31 w =>
  gdK (yb v27) true (fun k => kV P (binV .lss 22 (.tmp 29) (.tmp 31) v29 v31) w k) w fun v32 w =>
  kN P (pickN v27 v32 (.bool false)) w fun v33_1 w =>
  J4 v33_1 w) fun v33 w =>
  K v33 w
theorem F58_eq (P : Program) (t0 t1 t2 : Value) (w : World) (K : Value → World → Prop) : funE P ⟨[], [], []⟩ Tryz.f58 [t0, t1, t2] w K = F58 P t0 t1 t2 w K := by kernel_rfl
theorem F58_ok (t0 t1 t2 : Value) (w : World) (K : Value → World → Prop) (h : F58 Tryz.prog t0 t1 t2 w K) : callsK Tryz.prog 58 #[t0, t1, t2] w K := calls_of_eq mixedX Tryz.func58 (F58_eq _ t0 t1 t2 w K) h

/-- (mintmark/mintmarkref08.Ram).lay -/
def F59 (P : Program) (t0 t1 t2 : Value) (w : World) (K : Value → World → Prop) : Prop :=
  kV P (Instr.box 35 t0) w fun v3 w =>
  kV P (Instr.alloc 35 true (.tuple #[])) w fun v6 w =>
  kV P (Instr.buildSlice 32 0 #[]) w fun v7 w =>
  kV P (Instr.fieldAt 35 v3 1) w fun v8 w =>
  kV P (Instr.loadAt 32 v8) w fun v9 w =>
  kV P (Builtin.append_ #[32, 32] 32 #[v7, v9]) w fun v10 w =>
  kV P (Instr.buildSlice 32 1 #[(0, t1)]) w fun v12 w =>
  kV P (Builtin.append_ #[32, 32] 32 #[v10, v12]) w fun v13 w =>
  kV P (Instr.fieldAt 35 v3 1) w fun v14 w =>
  kU P (Instr.storeAt 32 v14 v13) w fun _ w =>
  kV P (Instr.buildSlice 33 0 #[]) w fun v15 w =>
  kV P (Instr.fieldAt 35 v3 2) w fun v16 w =>
  kV P (Instr.loadAt 33 v16) w fun v17 w =>
  kV P (Builtin.append_ #[33, 33] 33 #[v15, v17]) w fun v18 w =>
  kV P (Instr.buildSlice 33 1 #[(0, t2)]) w fun v20 w =>
  kV P (Builtin.append_ #[33, 33] 33 #[v18, v20]) w fun v21 w =>
  kV P (Instr.fieldAt 35 v3 2) w fun v22 w =>
  kU P (Instr.storeAt 33 v22 v21) w fun _ w =>
  kV P (Instr.loadAt 35 v3) w fun v23 w =>
  kV P (binV .quo 22 (.tmp 24) (.const (.int .u64 16)) t1 (.int .u64 16)) w fun v25 w =>
  kV P (binV .mul 22 (.tmp 25) (.const (.int .u64 16)) v25 (.int .u64 16)) w fun v26 w =>
  kN P (callN (.func (.func 92) #[] #[]) #[v23, v26]) w fun v27 w =>
  kU P (Instr.storeAt 35 v6 v27) w fun _ w =>
  retV P 35 v6 w fun r0 =>
  K r0 w
theorem F59_eq (P : Program) (t0 t1 t2 : Value) (w : World) (K : Value → World → Prop) : funE P ⟨[], [], []⟩ Tryz.f59 [t0, t1, t2] w K = F59 P t0 t1 t2 w K := by kernel_rfl
theorem F59_ok (t0 t1 t2 : Value) (w : World) (K : Value → World → Prop) (h : F59 Tryz.prog t0 t1 t2 w K) : callsK Tryz.prog 59 #[t0, t1, t2] w K := calls_of_eq mixedX Tryz.func59 (F59_eq _ t0 t1 t2 w K) h

/-- (mintmark/mintmarkref08.Ram).size -/
def F62 (P : Program) (t0 : Value) (w : World) (K : Value → World → Prop) : Prop :=
  kV P (Instr.box 35 t0) w fun v1 w =>
  kV P (Instr.fieldAt 35 v1 0) w fun v3 w =>
  kV P (Instr.loadAt 3 v3) w fun v4 w =>
  kV P (convert 3 22 v4) w fun v5 w =>
  kV P (binV .mul 22 (.tmp 5) (.const (.int .u64 4096)) v5 (.int .u64 4096)) w fun v6 w =>
  K v6 w
theorem F62_eq (P : Program) (t0 : Value) (w : World) (K : Value → World → Prop) : funE P ⟨[], [], []⟩ Tryz.f62 [t0] w K = F62 P t0 w K := by kernel_rfl
theorem F62_ok (t0 : Value) (w : World) (K : Value → World → Prop) (h : F62 Tryz.prog t0 w K) : callsK Tryz.prog 62 #[t0] w K := calls_of_eq mixedX Tryz.func62 (F62_eq _ t0 w K) h

/-- (mintmark/algebra.live).open -/
def F64 (P : Program) (t0 : Value) (w : World) (K : Value → World → Prop) : Prop :=
  kV P (Instr.box 121 t0) w fun v1 w =>
  kV P (Instr.fieldAt 121 v1 2) w fun v3 w =>
  kV P (Instr.loadAt 4 v3) w fun v4 w =>
  joinK (fun J0 : Value → World → Prop => gdK (yb v4) true (fun k => kV P (Instr.fieldAt 121 v1 1) w k) w fun v6 w =>
  gdK (yb v4) true (fun k => kV P (Instr.fieldAt 28 v6 2) w k) w fun v7 w =>
  gdK (yb v4) true (fun k => kV P (Instr.loadAt 22 v7) w k) w fun v8 w =>
  gdK (yb v4) true (fun k => kV P (binV .eql 22 (.tmp 8) (.const (.int .u64 0)) v8 (.int .u64 0)) w k) w fun v9 w =>
  kN P (pickN v4 v9 (.bool false)) w fun v10_1 w =>
  J0 v10_1 w) fun v10 w =>
  K v10 w
theorem F64_eq (P : Program) (t0 : Value) (w : World) (K : Value → World → Prop) : funE P ⟨[], [], []⟩ Tryz.f64 [t0] w K = F64 P t0 w K := by kernel_rfl
theorem F64_ok (t0 : Value) (w : World) (K : Value → World → Prop) (h : F64 Tryz.prog t0 w K) : callsK Tryz.prog 64 #[t0] w K := calls_of_eq mixedX Tryz.func64 (F64_eq _ t0 w K) h

/-- mintmark/perm.Within -/
def F65 (P : Program) (t0 t1 : Value) (w : World) (K : Value → World → Prop) : Prop :=
  kV P (binV .andNot 22 (.tmp 5) (.tmp 6) t0 t1) w fun v7 w =>
  kV P (binV .eql 22 (.tmp 7) (.const (.int .u64 0)) v7 (.int .u64 0)) w fun v8 w =>
  K v8 w
theorem F65_eq (P : Program) (t0 t1 : Value) (w : World) (K : Value → World → Prop) : funE P ⟨[], [], []⟩ Tryz.f65 [t0, t1] w K = F65 P t0 t1 w K := by kernel_rfl
theorem F65_ok (t0 t1 : Value) (w : World) (K : Value → World → Prop) (h : F65 Tryz.prog t0 t1 w K) : callsK Tryz.prog 65 #[t0, t1] w K := calls_of_eq mixedX Tryz.func65 (F65_eq _ t0 t1 w K) h

/-- mintmark/perm.Needs -/
def F66 (P : Program) (t0 : Value) (w : World) (K : Value → World → Prop) : Prop :=
  kV P (binV .eql 3 (.tmp 3) (.const (.int .i64 0)) t0 (.int .i64 0)) w fun v5 w =>
  condK v5
  (K (.int .u64 4) w)
  (kV P (binV .eql 3 (.tmp 3) (.const (.int .i64 1)) t0 (.int .i64 1)) w fun v7 w =>
  condK v7
  (K (.int .u64 1) w)
  (kV P (binV .eql 3 (.tmp 3) (.const (.int .i64 2)) t0 (.int .i64 2)) w fun v9 w =>
  condK v9
  (K (.int .u64 2) w)
  (kV P (binV .eql 3 (.tmp 3) (.const (.int .i64 3)) t0 (.int .i64 3)) w fun v11 w =>
  condK v11
  (K (.int .u64 9) w)
  (kV P (binV .eql 3 (.tmp 3) (.const (.int .i64 4)) t0 (.int .i64 4)) w fun v13 w =>
  condK v13
  (K (.int .u64 18) w)
  (K (.int .u64 511) w)))))
theorem F66_eq (P : Program) (t0 : Value) (w : World) (K : Value → World → Prop) : funE P ⟨[], [], []⟩ Tryz.f66 [t0] w K = F66 P t0 w K := by kernel_rfl
theorem F66_ok (t0 : Value) (w : World) (K : Value → World → Prop) (h : F66 Tryz.prog t0 w K) : callsK Tryz.prog 66 #[t0] w K := calls_of_eq mixedX Tryz.func66 (F66_eq _ t0 w K) h

/-- mintmark/scale.In -/
def F67 (P : Program) (t0 t1 t2 t3 : Value) (w : World) (K : Value → World → Prop) : Prop :=
  kN P (callN (.func (.func 94) #[] #[]) #[t0, t1]) w fun v14 w =>
  kV P (Instr.extract v14 0) w fun v15 w =>
  kV P (Instr.extract v14 1) w fun v16 w =>
  kV P (Op.unary .not v16) w fun v18 w =>
  joinK (fun J0 : Value → World → Prop => gdK (yb v18) true (fun k => k t2 w) w fun v20 w =>
  gdK (yb v18) true (fun k => k t0 w) w fun v21 w =>
  gdK (yb v18) true (fun k => kV P (binV .leq 22 (.tmp 20) (.tmp 21) v20 v21) w k) w fun v22 w =>
  kN P (pickN v18 v22 (.bool false)) w fun v23_1 w =>
  J0 v23_1 w) fun v23 w =>
  joinK (fun J1 : Value → World → Prop => gdK (yb v23) true (fun k => k v15 w) w fun v25 w =>
  gdK (yb v23) true (fun k => k t3 w) w fun v26 w =>
  gdK (yb v23) true (fun k => kV P (binV .leq 22 (.tmp 25) (.tmp 26) v25 v26) w k) w fun v27 w =>
  kN P (pickN v23 v27 (.bool false)) w fun v28_1 w =>
  J1 v28_1 w) fun v28 w =>
  K v28 w
theorem F67_eq (P : Program) (t0 t1 t2 t3 : Value) (w : World) (K : Value → World → Prop) : funE P ⟨[], [], []⟩ Tryz.f67 [t0, t1, t2, t3] w K = F67 P t0 t1 t2 t3 w K := by kernel_rfl
theorem F67_ok (t0 t1 t2 t3 : Value) (w : World) (K : Value → World → Prop) (h : F67 Tryz.prog t0 t1 t2 t3 w K) : callsK Tryz.prog 67 #[t0, t1, t2, t3] w K := calls_of_eq mixedX Tryz.func67 (F67_eq _ t0 t1 t2 t3 w K) h

/-- mintmark/inst.rows -/
def F68 (P : Program) (w : World) (K : Value → World → Prop) : Prop :=
  kV P (Instr.alloc 160 true (.tuple #[])) w fun v0 w =>
  kV P (Instr.build 101 #[(0, (.string ⟨#[108, 117, 105]⟩)), (1, (.int .u8 85)), (2, (.int .u64 55)), (3, (.int .u64 0)), (4, (.int .u64 0))]) w fun v1 w =>
  kV P (Instr.build 101 #[(0, (.string ⟨#[97, 117, 105, 112, 99]⟩)), (1, (.int .u8 85)), (2, (.int .u64 23)), (3, (.int .u64 0)), (4, (.int .u64 0))]) w fun v2 w =>
  kV P (Instr.build 101 #[(0, (.string ⟨#[106, 97, 108]⟩)), (1, (.int .u8 74)), (2, (.int .u64 111)), (3, (.int .u64 0)), (4, (.int .u64 0))]) w fun v3 w =>
  kV P (Instr.build 101 #[(0, (.string ⟨#[106, 97, 108, 114]⟩)), (1, (.int .u8 73)), (2, (.int .u64 103)), (3, (.int .u64 0)), (4, (.int .u64 0))]) w fun v4 w =>
  kV P (Instr.build 101 #[(0, (.string ⟨#[98, 101, 113]⟩)), (1, (.int .u8 66)), (2, (.int .u64 99)), (3, (.int .u64 0)), (4, (.int .u64 0))]) w fun v5 w =>
  kV P (Instr.build 101 #[(0, (.string ⟨#[98, 110, 101]⟩)), (1, (.int .u8 66)), (2, (.int .u64 99)), (3, (.int .u64 1)), (4, (.int .u64 0))]) w fun v6 w =>
  kV P (Instr.build 101 #[(0, (.string ⟨#[98, 108, 116]⟩)), (1, (.int .u8 66)), (2, (.int .u64 99)), (3, (.int .u64 4)), (4, (.int .u64 0))]) w fun v7 w =>
  kV P (Instr.build 101 #[(0, (.string ⟨#[98, 103, 101]⟩)), (1, (.int .u8 66)), (2, (.int .u64 99)), (3, (.int .u64 5)), (4, (.int .u64 0))]) w fun v8 w =>
  kV P (Instr.build 101 #[(0, (.string ⟨#[98, 108, 116, 117]⟩)), (1, (.int .u8 66)), (2, (.int .u64 99)), (3, (.int .u64 6)), (4, (.int .u64 0))]) w fun v9 w =>
  kV P (Instr.build 101 #[(0, (.string ⟨#[98, 103, 101, 117]⟩)), (1, (.int .u8 66)), (2, (.int .u64 99)), (3, (.int .u64 7)), (4, (.int .u64 0))]) w fun v10 w =>
  kV P (Instr.build 101 #[(0, (.string ⟨#[108, 98]⟩)), (1, (.int .u8 73)), (2, (.int .u64 3)), (3, (.int .u64 0)), (4, (.int .u64 0))]) w fun v11 w =>
  kV P (Instr.build 101 #[(0, (.string ⟨#[108, 104]⟩)), (1, (.int .u8 73)), (2, (.int .u64 3)), (3, (.int .u64 1)), (4, (.int .u64 0))]) w fun v12 w =>
  kV P (Instr.build 101 #[(0, (.string ⟨#[108, 119]⟩)), (1, (.int .u8 73)), (2, (.int .u64 3)), (3, (.int .u64 2)), (4, (.int .u64 0))]) w fun v13 w =>
  kV P (Instr.build 101 #[(0, (.string ⟨#[108, 100]⟩)), (1, (.int .u8 73)), (2, (.int .u64 3)), (3, (.int .u64 3)), (4, (.int .u64 0))]) w fun v14 w =>
  kV P (Instr.build 101 #[(0, (.string ⟨#[108, 98, 117]⟩)), (1, (.int .u8 73)), (2, (.int .u64 3)), (3, (.int .u64 4)), (4, (.int .u64 0))]) w fun v15 w =>
  kV P (Instr.build 101 #[(0, (.string ⟨#[108, 104, 117]⟩)), (1, (.int .u8 73)), (2, (.int .u64 3)), (3, (.int .u64 5)), (4, (.int .u64 0))]) w fun v16 w =>
  kV P (Instr.build 101 #[(0, (.string ⟨#[108, 119, 117]⟩)), (1, (.int .u8 73)), (2, (.int .u64 3)), (3, (.int .u64 6)), (4, (.int .u64 0))]) w fun v17 w =>
  kV P (Instr.build 101 #[(0, (.string ⟨#[115, 98]⟩)), (1, (.int .u8 83)), (2, (.int .u64 35)), (3, (.int .u64 0)), (4, (.int .u64 0))]) w fun v18 w =>
  kV P (Instr.build 101 #[(0, (.string ⟨#[115, 104]⟩)), (1, (.int .u8 83)), (2, (.int .u64 35)), (3, (.int .u64 1)), (4, (.int .u64 0))]) w fun v19 w =>
  kV P (Instr.build 101 #[(0, (.string ⟨#[115, 119]⟩)), (1, (.int .u8 83)), (2, (.int .u64 35)), (3, (.int .u64 2)), (4, (.int .u64 0))]) w fun v20 w =>
  kV P (Instr.build 101 #[(0, (.string ⟨#[115, 100]⟩)), (1, (.int .u8 83)), (2, (.int .u64 35)), (3, (.int .u64 3)), (4, (.int .u64 0))]) w fun v21 w =>
  kV P (Instr.build 101 #[(0, (.string ⟨#[97, 100, 100, 105]⟩)), (1, (.int .u8 73)), (2, (.int .u64 19)), (3, (.int .u64 0)), (4, (.int .u64 0))]) w fun v22 w =>
  kV P (Instr.build 101 #[(0, (.string ⟨#[115, 108, 116, 105]⟩)), (1, (.int .u8 73)), (2, (.int .u64 19)), (3, (.int .u64 2)), (4, (.int .u64 0))]) w fun v23 w =>
  kV P (Instr.build 101 #[(0, (.string ⟨#[115, 108, 116, 105, 117]⟩)), (1, (.int .u8 73)), (2, (.int .u64 19)), (3, (.int .u64 3)), (4, (.int .u64 0))]) w fun v24 w =>
  kV P (Instr.build 101 #[(0, (.string ⟨#[120, 111, 114, 105]⟩)), (1, (.int .u8 73)), (2, (.int .u64 19)), (3, (.int .u64 4)), (4, (.int .u64 0))]) w fun v25 w =>
  kV P (Instr.build 101 #[(0, (.string ⟨#[111, 114, 105]⟩)), (1, (.int .u8 73)), (2, (.int .u64 19)), (3, (.int .u64 6)), (4, (.int .u64 0))]) w fun v26 w =>
  kV P (Instr.build 101 #[(0, (.string ⟨#[97, 110, 100, 105]⟩)), (1, (.int .u8 73)), (2, (.int .u64 19)), (3, (.int .u64 7)), (4, (.int .u64 0))]) w fun v27 w =>
  kV P (Instr.build 101 #[(0, (.string ⟨#[115, 108, 108, 105]⟩)), (1, (.int .u8 72)), (2, (.int .u64 19)), (3, (.int .u64 1)), (4, (.int .u64 0))]) w fun v28 w =>
  kV P (Instr.build 101 #[(0, (.string ⟨#[115, 114, 108, 105]⟩)), (1, (.int .u8 72)), (2, (.int .u64 19)), (3, (.int .u64 5)), (4, (.int .u64 0))]) w fun v29 w =>
  kV P (Instr.build 101 #[(0, (.string ⟨#[115, 114, 97, 105]⟩)), (1, (.int .u8 72)), (2, (.int .u64 19)), (3, (.int .u64 5)), (4, (.int .u64 16))]) w fun v30 w =>
  kV P (Instr.build 101 #[(0, (.string ⟨#[97, 100, 100]⟩)), (1, (.int .u8 82)), (2, (.int .u64 51)), (3, (.int .u64 0)), (4, (.int .u64 0))]) w fun v31 w =>
  kV P (Instr.build 101 #[(0, (.string ⟨#[115, 117, 98]⟩)), (1, (.int .u8 82)), (2, (.int .u64 51)), (3, (.int .u64 0)), (4, (.int .u64 32))]) w fun v32 w =>
  kV P (Instr.build 101 #[(0, (.string ⟨#[115, 108, 108]⟩)), (1, (.int .u8 82)), (2, (.int .u64 51)), (3, (.int .u64 1)), (4, (.int .u64 0))]) w fun v33 w =>
  kV P (Instr.build 101 #[(0, (.string ⟨#[115, 108, 116]⟩)), (1, (.int .u8 82)), (2, (.int .u64 51)), (3, (.int .u64 2)), (4, (.int .u64 0))]) w fun v34 w =>
  kV P (Instr.build 101 #[(0, (.string ⟨#[115, 108, 116, 117]⟩)), (1, (.int .u8 82)), (2, (.int .u64 51)), (3, (.int .u64 3)), (4, (.int .u64 0))]) w fun v35 w =>
  kV P (Instr.build 101 #[(0, (.string ⟨#[120, 111, 114]⟩)), (1, (.int .u8 82)), (2, (.int .u64 51)), (3, (.int .u64 4)), (4, (.int .u64 0))]) w fun v36 w =>
  kV P (Instr.build 101 #[(0, (.string ⟨#[115, 114, 108]⟩)), (1, (.int .u8 82)), (2, (.int .u64 51)), (3, (.int .u64 5)), (4, (.int .u64 0))]) w fun v37 w =>
  kV P (Instr.build 101 #[(0, (.string ⟨#[115, 114, 97]⟩)), (1, (.int .u8 82)), (2, (.int .u64 51)), (3, (.int .u64 5)), (4, (.int .u64 32))]) w fun v38 w =>
  kV P (Instr.build 101 #[(0, (.string ⟨#[111, 114]⟩)), (1, (.int .u8 82)), (2, (.int .u64 51)), (3, (.int .u64 6)), (4, (.int .u64 0))]) w fun v39 w =>
  kV P (Instr.build 101 #[(0, (.string ⟨#[97, 110, 100]⟩)), (1, (.int .u8 82)), (2, (.int .u64 51)), (3, (.int .u64 7)), (4, (.int .u64 0))]) w fun v40 w =>
  kV P (Instr.build 101 #[(0, (.string ⟨#[101, 99, 97, 108, 108]⟩)), (1, (.int .u8 78)), (2, (.int .u64 115)), (3, (.int .u64 0)), (4, (.int .u64 0))]) w fun v41 w =>
  kV P (Instr.build 101 #[(0, (.string ⟨#[101, 98, 114, 101, 97, 107]⟩)), (1, (.int .u8 78)), (2, (.int .u64 115)), (3, (.int .u64 0)), (4, (.int .u64 1))]) w fun v42 w =>
  kV P (Instr.build 101 #[(0, (.string ⟨#[99, 108, 99]⟩)), (1, (.int .u8 73)), (2, (.int .u64 15)), (3, (.int .u64 2)), (4, (.int .u64 0))]) w fun v43 w =>
  kV P (Instr.build 101 #[(0, (.string ⟨#[99, 115, 99]⟩)), (1, (.int .u8 83)), (2, (.int .u64 35)), (3, (.int .u64 4)), (4, (.int .u64 0))]) w fun v44 w =>
  kV P (Instr.build 101 #[(0, (.string ⟨#[99, 115, 101, 116, 98, 111, 117, 110, 100, 115]⟩)), (1, (.int .u8 82)), (2, (.int .u64 91)), (3, (.int .u64 0)), (4, (.int .u64 8))]) w fun v45 w =>
  kV P (Instr.build 101 #[(0, (.string ⟨#[99, 115, 101, 116, 98, 111, 117, 110, 100, 115, 101, 120, 97, 99, 116]⟩)), (1, (.int .u8 82)), (2, (.int .u64 91)), (3, (.int .u64 0)), (4, (.int .u64 9))]) w fun v46 w =>
  kV P (Instr.build 101 #[(0, (.string ⟨#[99, 115, 101, 97, 108]⟩)), (1, (.int .u8 82)), (2, (.int .u64 91)), (3, (.int .u64 0)), (4, (.int .u64 11))]) w fun v47 w =>
  kV P (Instr.build 101 #[(0, (.string ⟨#[99, 117, 110, 115, 101, 97, 108]⟩)), (1, (.int .u8 82)), (2, (.int .u64 91)), (3, (.int .u64 0)), (4, (.int .u64 12))]) w fun v48 w =>
  kV P (Instr.build 101 #[(0, (.string ⟨#[99, 97, 110, 100, 112, 101, 114, 109]⟩)), (1, (.int .u8 82)), (2, (.int .u64 91)), (3, (.int .u64 0)), (4, (.int .u64 13))]) w fun v49 w =>
  kV P (Instr.build 101 #[(0, (.string ⟨#[99, 115, 101, 116, 97, 100, 100, 114]⟩)), (1, (.int .u8 82)), (2, (.int .u64 91)), (3, (.int .u64 0)), (4, (.int .u64 16))]) w fun v50 w =>
  kV P (Instr.build 101 #[(0, (.string ⟨#[99, 105, 110, 99, 111, 102, 102, 115, 101, 116]⟩)), (1, (.int .u8 82)), (2, (.int .u64 91)), (3, (.int .u64 0)), (4, (.int .u64 17))]) w fun v51 w =>
  kV P (Instr.build 101 #[(0, (.string ⟨#[99, 115, 117, 98]⟩)), (1, (.int .u8 82)), (2, (.int .u64 91)), (3, (.int .u64 0)), (4, (.int .u64 20))]) w fun v52 w =>
  kV P (Instr.build 101 #[(0, (.string ⟨#[99, 98, 117, 105, 108, 100, 99, 97, 112]⟩)), (1, (.int .u8 82)), (2, (.int .u64 91)), (3, (.int .u64 0)), (4, (.int .u64 29))]) w fun v53 w =>
  kV P (Instr.build 101 #[(0, (.string ⟨#[99, 116, 101, 115, 116, 115, 117, 98, 115, 101, 116]⟩)), (1, (.int .u8 82)), (2, (.int .u64 91)), (3, (.int .u64 0)), (4, (.int .u64 32))]) w fun v54 w =>
  kV P (Instr.build 101 #[(0, (.string ⟨#[99, 115, 101, 116, 101, 113, 117, 97, 108]⟩)), (1, (.int .u8 82)), (2, (.int .u64 91)), (3, (.int .u64 0)), (4, (.int .u64 33))]) w fun v55 w =>
  kV P (Instr.build 101 #[(0, (.string ⟨#[99, 103, 101, 116, 112, 101, 114, 109]⟩)), (1, (.int .u8 71)), (2, (.int .u64 91)), (3, (.int .u64 0)), (4, (.int .u64 0))]) w fun v56 w =>
  kV P (Instr.build 101 #[(0, (.string ⟨#[99, 103, 101, 116, 116, 121, 112, 101]⟩)), (1, (.int .u8 71)), (2, (.int .u64 91)), (3, (.int .u64 0)), (4, (.int .u64 1))]) w fun v57 w =>
  kV P (Instr.build 101 #[(0, (.string ⟨#[99, 103, 101, 116, 98, 97, 115, 101]⟩)), (1, (.int .u8 71)), (2, (.int .u64 91)), (3, (.int .u64 0)), (4, (.int .u64 2))]) w fun v58 w =>
  kV P (Instr.build 101 #[(0, (.string ⟨#[99, 103, 101, 116, 108, 101, 110]⟩)), (1, (.int .u8 71)), (2, (.int .u64 91)), (3, (.int .u64 0)), (4, (.int .u64 3))]) w fun v59 w =>
  kV P (Instr.build 101 #[(0, (.string ⟨#[99, 103, 101, 116, 116, 97, 103]⟩)), (1, (.int .u8 71)), (2, (.int .u64 91)), (3, (.int .u64 0)), (4, (.int .u64 4))]) w fun v60 w =>
  kV P (Instr.build 101 #[(0, (.string ⟨#[99, 103, 101, 116, 111, 102, 102, 115, 101, 116]⟩)), (1, (.int .u8 71)), (2, (.int .u64 91)), (3, (.int .u64 0)), (4, (.int .u64 6))]) w fun v61 w =>
  kV P (Instr.build 101 #[(0, (.string ⟨#[99, 114, 114, 108]⟩)), (1, (.int .u8 71)), (2, (.int .u64 91)), (3, (.int .u64 0)), (4, (.int .u64 8))]) w fun v62 w =>
  kV P (Instr.build 101 #[(0, (.string ⟨#[99, 114, 97, 109]⟩)), (1, (.int .u8 71)), (2, (.int .u64 91)), (3, (.int .u64 0)), (4, (.int .u64 9))]) w fun v63 w =>
  kV P (Instr.build 101 #[(0, (.string ⟨#[99, 109, 111, 118, 101]⟩)), (1, (.int .u8 71)), (2, (.int .u64 91)), (3, (.int .u64 0)), (4, (.int .u64 10))]) w fun v64 w =>
  kV P (Instr.build 101 #[(0, (.string ⟨#[99, 99, 108, 101, 97, 114, 116, 97, 103]⟩)), (1, (.int .u8 71)), (2, (.int .u64 91)), (3, (.int .u64 0)), (4, (.int .u64 11))]) w fun v65 w =>
  kV P (Instr.build 101 #[(0, (.string ⟨#[99, 103, 101, 116, 97, 100, 100, 114]⟩)), (1, (.int .u8 71)), (2, (.int .u64 91)), (3, (.int .u64 0)), (4, (.int .u64 15))]) w fun v66 w =>
  kV P (Instr.build 101 #[(0, (.string ⟨#[99, 115, 101, 97, 108, 101, 110, 116, 114, 121]⟩)), (1, (.int .u8 71)), (2, (.int .u64 91)), (3, (.int .u64 0)), (4, (.int .u64 17))]) w fun v67 w =>
  kV P (Instr.build 101 #[(0, (.string ⟨#[99, 105, 110, 99, 111, 102, 102, 115, 101, 116, 105, 109, 109]⟩)), (1, (.int .u8 73)), (2, (.int .u64 91)), (3, (.int .u64 1)), (4, (.int .u64 0))]) w fun v68 w =>
  kV P (Instr.build 101 #[(0, (.string ⟨#[99, 115, 101, 116, 98, 111, 117, 110, 100, 115, 105, 109, 109]⟩)), (1, (.int .u8 67)), (2, (.int .u64 91)), (3, (.int .u64 2)), (4, (.int .u64 0))]) w fun v69 w =>
  kV P (Instr.build 160 #[(0, v1), (1, v2), (2, v3), (3, v4), (4, v5), (5, v6), (6, v7), (7, v8), (8, v9), (9, v10), (10, v11), (11, v12), (12, v13), (13, v14), (14, v15), (15, v16), (16, v17), (17, v18), (18, v19), (19, v20), (20, v21), (21, v22), (22, v23), (23, v24), (24, v25), (25, v26), (26, v27), (27, v28), (28, v29), (29, v30), (30, v31), (31, v32), (32, v33), (33, v34), (34, v35), (35, v36), (36, v37), (37, v38), (38, v39), (39, v40), (40, v41), (41, v42), (42, v43), (43, v44), (44, v45), (45, v46), (46, v47), (47, v48), (48, v49), (49, v50), (50, v51), (51, v52), (52, v53), (53, v54), (54, v55), (55, v56), (56, v57), (57, v58), (58, v59), (59, v60), (60, v61), (61, v62), (62, v63), (63, v64), (64, v65), (65, v66), (66, v67), (67, v68), (68, v69)]) w fun v70 w =>
  kU P (Instr.storeAt 160 v0 v70) w fun _ w =>
  retV P 160 v0 w fun r0 =>
  K r0 w
theorem F68_eq (P : Program) (w : World) (K : Value → World → Prop) : funE P ⟨[], [], []⟩ Tryz.f68 [] w K = F68 P  w K := by kernel_rfl
theorem F68_ok (w : World) (K : Value → World → Prop) (h : F68 Tryz.prog  w K) : callsK Tryz.prog 68 #[] w K := calls_of_eq mixedX Tryz.func68 (F68_eq _  w K) h

/-- (mintmark/inst.layout).read -/
def F69 (P : Program) (t0 t1 : Value) (w : World) (K : Value → World → Prop) : Prop :=
  kV P (Instr.box 106 t0) w fun v2 w =>
  kV P (Instr.fieldAt 106 v2 0) w fun v8 w =>
  kV P (Instr.loadAt 104 v8) w fun v9 w =>
  kV P (Builtin.len_ #[104] 3 #[v9]) w fun v10 w =>
  loopT (fun R0 s0 w => ∀ _ : Nat → Value,
  kV P (binV .lss 3 (.tmp 11) (.tmp 10) (s0.getD 1 undef) v10) w fun v12 w =>
  condK v12
  (joinL (fun J2 =>
  kV P (Instr.indexAt 104 v9 (s0.getD 1 undef)) w fun v13 w =>
  kV P (Instr.loadAt 169 v13) w fun v14 w =>
  kV P (Instr.alloc 169 true (.tuple #[])) w fun v7 w =>
  kU P (Instr.storeAt 169 v7 v14) w fun _ w =>
  drewK (fun w =>
  relX fun R4 =>
  postX R4 (fun p4_15 => allX R4 w fun V4 w => True → (okX R4 w p4_15) (s0.getD 0 undef) w) fun p4_15 =>
  postX R4 (fun p4_16 => allX R4 w fun V4 w => True → kV P (Instr.fieldAt 169 v7 0) w (okX R4 w p4_16)) fun p4_16 =>
  postX R4 (fun p4_17 => allX R4 w fun V4 w => p4_16 (V4 16) w ∧ True → kV P (Instr.loadAt 3 (V4 16)) w (okX R4 w p4_17)) fun p4_17 =>
  postX R4 (fun p4_18 => allX R4 w fun V4 w => True → kV P (Instr.fieldAt 169 v7 1) w (okX R4 w p4_18)) fun p4_18 =>
  postX R4 (fun p4_19 => allX R4 w fun V4 w => p4_18 (V4 18) w ∧ True → kV P (Instr.loadAt 3 (V4 18)) w (okX R4 w p4_19)) fun p4_19 =>
  postX R4 (fun p4_20 => allX R4 w fun V4 w => True → (okX R4 w p4_20) t1 w) fun p4_20 =>
  postX R4 (fun p4_21 => allX R4 w fun V4 w => True → kV P (Instr.fieldAt 169 v7 2) w (okX R4 w p4_21)) fun p4_21 =>
  postX R4 (fun p4_22 => allX R4 w fun V4 w => p4_21 (V4 21) w ∧ True → kV P (Instr.loadAt 3 (V4 21)) w (okX R4 w p4_22)) fun p4_22 =>
  postX R4 (fun p4_23 => allX R4 w fun V4 w => True → kV P (Instr.fieldAt 169 v7 1) w (okX R4 w p4_23)) fun p4_23 =>
  postX R4 (fun p4_24 => allX R4 w fun V4 w => p4_23 (V4 23) w ∧ True → kV P (Instr.loadAt 3 (V4 23)) w (okX R4 w p4_24)) fun p4_24 =>
  postX R4 (fun p4_25 => allX R4 w fun V4 w => p4_20 (V4 20) w ∧ p4_22 (V4 22) w ∧ p4_24 (V4 24) w ∧ True → kN P (callN (.func (.func 43) #[] #[]) #[(V4 20), (V4 22), (V4 24)]) w (okX R4 w p4_25)) fun p4_25 =>
  allX R4 w fun V4 w => p4_15 (V4 15) w ∧ p4_16 (V4 16) w ∧ p4_17 (V4 17) w ∧ p4_18 (V4 18) w ∧ p4_19 (V4 19) w ∧ p4_20 (V4 20) w ∧ p4_21 (V4 21) w ∧ p4_22 (V4 22) w ∧ p4_23 (V4 23) w ∧ p4_24 (V4 24) w ∧ p4_25 (V4 25) w ∧ True → xDist V4 [] →
  kN P (callN (.func (.func 41) #[] #[]) #[(V4 15), (V4 17), (V4 19), (V4 25)]) w fun v26 w =>
  J2 [v26] w) w) fun s2 w => ∀ _ : Nat → Value,
  kV P (binV .add 3 (.tmp 11) (.const (.int .i64 1)) (s0.getD 1 undef) (.int .i64 1)) w fun v27 w =>
  R0 [(s2.getD 0 undef), v27] w)
  (joinL (fun J5 =>
  kV P (Instr.fieldAt 106 v2 2) w fun v28 w =>
  kV P (Instr.loadAt 4 v28) w fun v29 w =>
  condK v29
  (kV P (Instr.fieldAt 106 v2 1) w fun v31 w =>
  kV P (Instr.loadAt 3 v31) w fun v32 w =>
  kN P (callN (.func (.func 83) #[] #[]) #[(s0.getD 0 undef), v32]) w fun v33 w =>
  J5 [v33] w)
  (J5 [(s0.getD 0 undef)] w)) fun s5 w => ∀ _ : Nat → Value,
  kV P (convert 22 2 (s5.getD 0 undef)) w fun v35 w =>
  K v35 w)) [(.int .u64 0), (.int .i64 0)] w
theorem F69_eq (P : Program) (t0 t1 : Value) (w : World) (K : Value → World → Prop) : funE P ⟨[(5, 1011)], [(3, [5, 11])], [(9, [5]), (6, [5])]⟩ Tryz.f69 [t0, t1] w K = F69 P t0 t1 w K := by kernel_rfl
theorem F69_ok (t0 t1 : Value) (w : World) (K : Value → World → Prop) (h : F69 Tryz.prog t0 t1 w K) : callsK Tryz.prog 69 #[t0, t1] w K := calls_of_eq mixedX Tryz.func69 (F69_eq _ t0 t1 w K) h

/-- mintmark/alu.Branches -/
def F70 (P : Program) (t0 : Value) (w : World) (K : Value → World → Prop) : Prop :=
  kV P (binV .geq 3 (.tmp 3) (.const (.int .i64 5)) t0 (.int .i64 5)) w fun v4 w =>
  joinK (fun J0 : Value → World → Prop => gdK (yb v4) true (fun k => k t0 w) w fun v6 w =>
  gdK (yb v4) true (fun k => kV P (binV .leq 3 (.tmp 6) (.const (.int .i64 10)) v6 (.int .i64 10)) w k) w fun v7 w =>
  kN P (pickN v4 v7 (.bool false)) w fun v8_1 w =>
  J0 v8_1 w) fun v8 w =>
  K v8 w
theorem F70_eq (P : Program) (t0 : Value) (w : World) (K : Value → World → Prop) : funE P ⟨[], [], []⟩ Tryz.f70 [t0] w K = F70 P t0 w K := by kernel_rfl
theorem F70_ok (t0 : Value) (w : World) (K : Value → World → Prop) (h : F70 Tryz.prog t0 w K) : callsK Tryz.prog 70 #[t0] w K := calls_of_eq mixedX Tryz.func70 (F70_eq _ t0 w K) h

/-- mintmark/alu.Width -/
def F72 (P : Program) (t0 : Value) (w : World) (K : Value → World → Prop) : Prop :=
  kV P (Instr.build 185 #[(0, (.int .i64 1)), (1, (.int .i64 2)), (2, (.int .i64 4)), (3, (.int .i64 8))]) w fun v5 w =>
  kV P (Instr.alloc 185 true (.tuple #[])) w fun v3 w =>
  kU P (Instr.storeAt 185 v3 v5) w fun _ w =>
  kV P (Instr.build 186 #[(0, (.int .i64 1)), (1, (.int .i64 2)), (2, (.int .i64 4)), (3, (.int .i64 8)), (4, (.int .i64 1)), (5, (.int .i64 2)), (6, (.int .i64 4))]) w fun v6 w =>
  kV P (Instr.alloc 186 true (.tuple #[])) w fun v4 w =>
  kU P (Instr.storeAt 186 v4 v6) w fun _ w =>
  kN P (callN (.func (.func 97) #[] #[]) #[t0]) w fun v9 w =>
  condK v9
  (kV P (binV .sub 3 (.tmp 10) (.const (.int .i64 11)) t0 (.int .i64 11)) w fun v11 w =>
  kV P (Instr.indexAt 186 v4 v11) w fun v12 w =>
  kV P (Instr.loadAt 3 v12) w fun v13 w =>
  K v13 w)
  (kN P (callN (.func (.func 98) #[] #[]) #[t0]) w fun v16 w =>
  condK v16
  (kV P (binV .sub 3 (.tmp 17) (.const (.int .i64 18)) t0 (.int .i64 18)) w fun v18 w =>
  kV P (Instr.indexAt 185 v3 v18) w fun v19 w =>
  kV P (Instr.loadAt 3 v19) w fun v20 w =>
  K v20 w)
  (kV P (binV .eql 3 (.tmp 22) (.const (.int .i64 43)) t0 (.int .i64 43)) w fun v23 w =>
  joinK (fun J0 : Value → World → Prop => gdK (yb v23) false (fun k => k t0 w) w fun v25 w =>
  gdK (yb v23) false (fun k => kV P (binV .eql 3 (.tmp 25) (.const (.int .i64 44)) v25 (.int .i64 44)) w k) w fun v26 w =>
  kN P (pickN v23 (.bool true) v26) w fun v27_1 w =>
  J0 v27_1 w) fun v27 w =>
  condK v27
  (K (.int .i64 16) w)
  (K (.int .i64 0) w)))
theorem F72_eq (P : Program) (t0 : Value) (w : World) (K : Value → World → Prop) : funE P ⟨[], [], []⟩ Tryz.f72 [t0] w K = F72 P t0 w K := by kernel_rfl
theorem F72_ok (t0 : Value) (w : World) (K : Value → World → Prop) (h : F72 Tryz.prog t0 w K) : callsK Tryz.prog 72 #[t0] w K := calls_of_eq mixedX Tryz.func72 (F72_eq _ t0 w K) h

/-- (*mintmark/exec.run).tell -/
def F74 (P : Program) (t0 t1 : Value) (w : World) (K : Value → World → Prop) : Prop :=
  kV P (Instr.box 24 t1) w fun v3 w =>
  kV P (Instr.alloc 42 true (.tuple #[])) w fun v4 w =>
  kV P (Instr.alloc 51 true (.tuple #[])) w fun v5 w =>
  joinL (fun J0 =>
  drewK (fun w =>
  relX fun R4 =>
  postX R4 (fun p4_6 => allX R4 w fun V4 w => True → (okX R4 w p4_6) t0 w) fun p4_6 =>
  postX R4 (fun p4_7 => allX R4 w fun V4 w => True → (okX R4 w p4_7) t0 w) fun p4_7 =>
  postX R4 (fun p4_8 => allX R4 w fun V4 w => p4_7 (V4 7) w ∧ True → kN P (nilN (V4 7)) w (okX R4 w p4_8)) fun p4_8 =>
  postX R4 (fun p4_9 => allX R4 w fun V4 w => p4_8 (V4 8) w ∧ True → kV P (Instr.fieldAt 91 (V4 8) 0) w (okX R4 w p4_9)) fun p4_9 =>
  postX R4 (fun p4_10 => allX R4 w fun V4 w => p4_9 (V4 9) w ∧ True → kV P (Instr.loadAt 42 (V4 9)) w (okX R4 w p4_10)) fun p4_10 =>
  postX R4 (fun p4_11 => allX R4 w fun V4 w => True → (okX R4 w p4_11) t0 w) fun p4_11 =>
  postX R4 (fun p4_12 => allX R4 w fun V4 w => p4_11 (V4 11) w ∧ True → kN P (nilN (V4 11)) w (okX R4 w p4_12)) fun p4_12 =>
  postX R4 (fun p4_13 => allX R4 w fun V4 w => p4_12 (V4 12) w ∧ True → kV P (Instr.fieldAt 91 (V4 12) 3) w (okX R4 w p4_13)) fun p4_13 =>
  postX R4 (fun p4_14 => allX R4 w fun V4 w => p4_13 (V4 13) w ∧ True → kV P (Instr.fieldAt 49 (V4 13) 1) w (okX R4 w p4_14)) fun p4_14 =>
  postX R4 (fun p4_15 => allX R4 w fun V4 w => p4_14 (V4 14) w ∧ True → kV P (Instr.loadAt 3 (V4 14)) w (okX R4 w p4_15)) fun p4_15 =>
  postX R4 (fun p4_16 => allX R4 w fun V4 w => True → kV P (Instr.loadAt 24 v3) w (okX R4 w p4_16)) fun p4_16 =>
  postX R4 (fun p4_17 => allX R4 w fun V4 w => p4_10 (V4 10) w ∧ p4_15 (V4 15) w ∧ p4_16 (V4 16) w ∧ True → kN P (callN (.func (.func 9) #[] #[]) #[(V4 10), (V4 15), (V4 16)]) w (okX R4 w p4_17)) fun p4_17 =>
  allX R4 w fun V4 w => p4_6 (V4 6) w ∧ p4_7 (V4 7) w ∧ p4_8 (V4 8) w ∧ p4_9 (V4 9) w ∧ p4_10 (V4 10) w ∧ p4_11 (V4 11) w ∧ p4_12 (V4 12) w ∧ p4_13 (V4 13) w ∧ p4_14 (V4 14) w ∧ p4_15 (V4 15) w ∧ p4_16 (V4 16) w ∧ p4_17 (V4 17) w ∧ True → xDist V4 [] →
  kN P (nilN (V4 6)) w fun v18 w =>
  kV P (Instr.fieldAt 91 v18 0) w fun v19 w =>
  kU P (Instr.storeAt 42 v19 (V4 17)) w fun _ w =>
  J0 [] w) w) fun s0 w => ∀ _ : Nat → Value,
  kN P (callN (.func (.func 96) #[] #[]) #[t0]) w fun v21 w =>
  kV P (Instr.extract v21 0) w fun v22 w =>
  kV P (Instr.extract v21 1) w fun v23 w =>
  kU P (Instr.storeAt 42 v4 v22) w fun _ w =>
  kU P (Instr.storeAt 51 v5 v23) w fun _ w =>
  retV P 42 v4 w fun r2 =>
  retV P 51 v5 w fun r3 =>
  K (.tuple #[r2, r3]) w
theorem F74_eq (P : Program) (t0 t1 : Value) (w : World) (K : Value → World → Prop) : funE P ⟨[(1, 1012)], [], [(2, [])]⟩ Tryz.f74 [t0, t1] w K = F74 P t0 t1 w K := by kernel_rfl
theorem F74_ok (t0 t1 : Value) (w : World) (K : Value → World → Prop) (h : F74 Tryz.prog t0 t1 w K) : callsK Tryz.prog 74 #[t0, t1] w K := calls_of_eq mixedX Tryz.func74 (F74_eq _ t0 t1 w K) h

/-- (*mintmark/exec.run).number -/
def F77 (P : Program) (t0 t1 : Value) (w : World) (K : Value → World → Prop) : Prop :=
  kV P (Instr.alloc 42 true (.tuple #[])) w fun v4 w =>
  kV P (Instr.alloc 51 true (.tuple #[])) w fun v5 w =>
  kN P (callN (.func (.func 33) #[] #[]) #[t1]) w fun v8 w =>
  kN P (callN (.func (.func 74) #[] #[]) #[t0, v8]) w fun v9 w =>
  kV P (Instr.extract v9 0) w fun v10 w =>
  kV P (Instr.extract v9 1) w fun v11 w =>
  kU P (Instr.storeAt 42 v4 v10) w fun _ w =>
  kU P (Instr.storeAt 51 v5 v11) w fun _ w =>
  retV P 42 v4 w fun r0 =>
  retV P 51 v5 w fun r1 =>
  K (.tuple #[r0, r1]) w
theorem F77_eq (P : Program) (t0 t1 : Value) (w : World) (K : Value → World → Prop) : funE P ⟨[], [], []⟩ Tryz.f77 [t0, t1] w K = F77 P t0 t1 w K := by kernel_rfl
theorem F77_ok (t0 t1 : Value) (w : World) (K : Value → World → Prop) (h : F77 Tryz.prog t0 t1 w K) : callsK Tryz.prog 77 #[t0, t1] w K := calls_of_eq mixedX Tryz.func77 (F77_eq _ t0 t1 w K) h

/-- mintmark/alu.Immediate -/
def F78 (P : Program) (t0 : Value) (w : World) (K : Value → World → Prop) : Prop :=
  kV P (binV .geq 3 (.tmp 3) (.const (.int .i64 22)) t0 (.int .i64 22)) w fun v4 w =>
  joinK (fun J0 : Value → World → Prop => gdK (yb v4) true (fun k => k t0 w) w fun v6 w =>
  gdK (yb v4) true (fun k => kV P (binV .leq 3 (.tmp 6) (.const (.int .i64 30)) v6 (.int .i64 30)) w k) w fun v7 w =>
  kN P (pickN v4 v7 (.bool false)) w fun v8_1 w =>
  J0 v8_1 w) fun v8 w =>
  K v8 w
theorem F78_eq (P : Program) (t0 : Value) (w : World) (K : Value → World → Prop) : funE P ⟨[], [], []⟩ Tryz.f78 [t0] w K = F78 P t0 w K := by kernel_rfl
theorem F78_ok (t0 : Value) (w : World) (K : Value → World → Prop) (h : F78 Tryz.prog t0 w K) : callsK Tryz.prog 78 #[t0] w K := calls_of_eq mixedX Tryz.func78 (F78_eq _ t0 w K) h

/-- mintmark/alu.Do -/
def F79 (P : Program) (t0 t1 t2 : Value) (w : World) (K : Value → World → Prop) : Prop :=
  kV P (binV .rem 22 (.tmp 9) (.const (.int .u64 64)) t2 (.int .u64 64)) w fun v10 w =>
  joinL (fun J0 =>
  kV P (binV .eql 3 (.tmp 11) (.const (.int .i64 31)) t0 (.int .i64 31)) w fun v13 w =>
  condK v13
  (J0 [v13] w)
  (kV P (binV .eql 3 (.tmp 11) (.const (.int .i64 22)) t0 (.int .i64 22)) w fun v14 w =>
  J0 [v14] w)) fun s0 w => ∀ _ : Nat → Value,
  condK (s0.getD 0 undef)
  (kV P (binV .add 22 (.tmp 15) (.tmp 16) t1 t2) w fun v17 w =>
  K (.tuple #[v17, (.bool true)]) w)
  (kV P (binV .eql 3 (.tmp 11) (.const (.int .i64 32)) t0 (.int .i64 32)) w fun v19 w =>
  condK v19
  (kV P (binV .sub 22 (.tmp 20) (.tmp 21) t1 t2) w fun v22 w =>
  K (.tuple #[v22, (.bool true)]) w)
  (joinL (fun J2 =>
  kV P (binV .eql 3 (.tmp 11) (.const (.int .i64 40)) t0 (.int .i64 40)) w fun v24 w =>
  condK v24
  (J2 [v24] w)
  (kV P (binV .eql 3 (.tmp 11) (.const (.int .i64 27)) t0 (.int .i64 27)) w fun v25 w =>
  J2 [v25] w)) fun s2 w => ∀ _ : Nat → Value,
  condK (s2.getD 0 undef)
  (kV P (binV .and 22 (.tmp 26) (.tmp 27) t1 t2) w fun v28 w =>
  K (.tuple #[v28, (.bool true)]) w)
  (joinL (fun J4 =>
  kV P (binV .eql 3 (.tmp 11) (.const (.int .i64 39)) t0 (.int .i64 39)) w fun v30 w =>
  condK v30
  (J4 [v30] w)
  (kV P (binV .eql 3 (.tmp 11) (.const (.int .i64 26)) t0 (.int .i64 26)) w fun v31 w =>
  J4 [v31] w)) fun s4 w => ∀ _ : Nat → Value,
  condK (s4.getD 0 undef)
  (kV P (binV .or 22 (.tmp 32) (.tmp 33) t1 t2) w fun v34 w =>
  K (.tuple #[v34, (.bool true)]) w)
  (joinL (fun J6 =>
  kV P (binV .eql 3 (.tmp 11) (.const (.int .i64 36)) t0 (.int .i64 36)) w fun v36 w =>
  condK v36
  (J6 [v36] w)
  (kV P (binV .eql 3 (.tmp 11) (.const (.int .i64 25)) t0 (.int .i64 25)) w fun v37 w =>
  J6 [v37] w)) fun s6 w => ∀ _ : Nat → Value,
  condK (s6.getD 0 undef)
  (kV P (binV .xor 22 (.tmp 38) (.tmp 39) t1 t2) w fun v40 w =>
  K (.tuple #[v40, (.bool true)]) w)
  (joinL (fun J8 =>
  kV P (binV .eql 3 (.tmp 11) (.const (.int .i64 33)) t0 (.int .i64 33)) w fun v42 w =>
  condK v42
  (J8 [v42] w)
  (kV P (binV .eql 3 (.tmp 11) (.const (.int .i64 28)) t0 (.int .i64 28)) w fun v43 w =>
  J8 [v43] w)) fun s8 w => ∀ _ : Nat → Value,
  condK (s8.getD 0 undef)
  (kV P (binV .shl 22 (.tmp 44) (.tmp 45) t1 v10) w fun v46 w =>
  K (.tuple #[v46, (.bool true)]) w)
  (joinL (fun J10 =>
  kV P (binV .eql 3 (.tmp 11) (.const (.int .i64 37)) t0 (.int .i64 37)) w fun v48 w =>
  condK v48
  (J10 [v48] w)
  (kV P (binV .eql 3 (.tmp 11) (.const (.int .i64 29)) t0 (.int .i64 29)) w fun v49 w =>
  J10 [v49] w)) fun s10 w => ∀ _ : Nat → Value,
  condK (s10.getD 0 undef)
  (kV P (binV .shr 22 (.tmp 50) (.tmp 51) t1 v10) w fun v52 w =>
  K (.tuple #[v52, (.bool true)]) w)
  (joinL (fun J12 =>
  kV P (binV .eql 3 (.tmp 11) (.const (.int .i64 38)) t0 (.int .i64 38)) w fun v54 w =>
  condK v54
  (J12 [v54] w)
  (kV P (binV .eql 3 (.tmp 11) (.const (.int .i64 30)) t0 (.int .i64 30)) w fun v55 w =>
  J12 [v55] w)) fun s12 w => ∀ _ : Nat → Value,
  condK (s12.getD 0 undef)
  (kV P (convert 22 2 t1) w fun v57 w =>
  kV P (binV .shr 2 (.tmp 57) (.tmp 58) v57 v10) w fun v59 w =>
  kV P (convert 2 22 v59) w fun v60 w =>
  K (.tuple #[v60, (.bool true)]) w)
  (joinL (fun J14 =>
  kV P (binV .eql 3 (.tmp 11) (.const (.int .i64 34)) t0 (.int .i64 34)) w fun v62 w =>
  condK v62
  (J14 [v62] w)
  (kV P (binV .eql 3 (.tmp 11) (.const (.int .i64 23)) t0 (.int .i64 23)) w fun v63 w =>
  J14 [v63] w)) fun s14 w => ∀ _ : Nat → Value,
  condK (s14.getD 0 undef)
  (kV P (convert 22 2 t1) w fun v65 w =>
  kV P (convert 22 2 t2) w fun v67 w =>
  kV P (binV .lss 2 (.tmp 65) (.tmp 67) v65 v67) w fun v68 w =>
  kN P (callN (.func (.func 102) #[] #[]) #[v68]) w fun v69 w =>
  K (.tuple #[v69, (.bool true)]) w)
  (joinL (fun J16 =>
  kV P (binV .eql 3 (.tmp 11) (.const (.int .i64 35)) t0 (.int .i64 35)) w fun v71 w =>
  condK v71
  (J16 [v71] w)
  (kV P (binV .eql 3 (.tmp 11) (.const (.int .i64 24)) t0 (.int .i64 24)) w fun v72 w =>
  J16 [v72] w)) fun s16 w => ∀ _ : Nat → Value,
  condK (s16.getD 0 undef)
  (kV P (binV .lss 22 (.tmp 73) (.tmp 74) t1 t2) w fun v75 w =>
  kN P (callN (.func (.func 102) #[] #[]) #[v75]) w fun v76 w =>
  K (.tuple #[v76, (.bool true)]) w)
  (K (.tuple #[(.int .u64 0), (.bool false)]) w))))))))))
theorem F79_eq (P : Program) (t0 t1 t2 : Value) (w : World) (K : Value → World → Prop) : funE P ⟨[], [], [(5, [12]), (10, [23]), (13, [29]), (16, [35]), (19, [41]), (22, [47]), (25, [53]), (28, [61]), (31, [70])]⟩ Tryz.f79 [t0, t1, t2] w K = F79 P t0 t1 t2 w K := by kernel_rfl
theorem F79_ok (t0 t1 t2 : Value) (w : World) (K : Value → World → Prop) (h : F79 Tryz.prog t0 t1 t2 w K) : callsK Tryz.prog 79 #[t0, t1, t2] w K := calls_of_eq mixedX Tryz.func79 (F79_eq _ t0 t1 t2 w K) h

/-- (mintmark/inst.row).fixed$1 -/
def F82 (P : Program) (t0 t1 t2 t3 t4 : Value) (w : World) (K : Value → World → Prop) : Prop :=
  drewK (fun w =>
  relX fun R0 =>
  postX R0 (fun p0_8 => allX R0 w fun V0 w => True → kV P (Instr.loadAt 22 t3) w (okX R0 w p0_8)) fun p0_8 =>
  postX R0 (fun p0_9 => allX R0 w fun V0 w => True → (okX R0 w p0_9) t0 w) fun p0_9 =>
  postX R0 (fun p0_10 => allX R0 w fun V0 w => True → (okX R0 w p0_10) t1 w) fun p0_10 =>
  postX R0 (fun p0_11 => allX R0 w fun V0 w => True → (okX R0 w p0_11) t2 w) fun p0_11 =>
  postX R0 (fun p0_12 => allX R0 w fun V0 w => p0_8 (V0 8) w ∧ p0_9 (V0 9) w ∧ p0_10 (V0 10) w ∧ p0_11 (V0 11) w ∧ True → kN P (callN (.func (.func 41) #[] #[]) #[(V0 8), (V0 9), (V0 10), (V0 11)]) w (okX R0 w p0_12)) fun p0_12 =>
  postX R0 (fun p0_13 => allX R0 w fun V0 w => True → kV P (Instr.loadAt 22 t4) w (okX R0 w p0_13)) fun p0_13 =>
  postX R0 (fun p0_14 => allX R0 w fun V0 w => True → (okX R0 w p0_14) t0 w) fun p0_14 =>
  postX R0 (fun p0_15 => allX R0 w fun V0 w => True → (okX R0 w p0_15) t1 w) fun p0_15 =>
  allX R0 w fun V0 w => p0_8 (V0 8) w ∧ p0_9 (V0 9) w ∧ p0_10 (V0 10) w ∧ p0_11 (V0 11) w ∧ p0_12 (V0 12) w ∧ p0_13 (V0 13) w ∧ p0_14 (V0 14) w ∧ p0_15 (V0 15) w ∧ True → xDist V0 [] →
  kN P (callN (.func (.func 41) #[] #[]) #[(V0 13), (V0 14), (V0 15), (.int .u64 18446744073709551615)]) w fun v16 w =>
  kU P (Instr.storeAt 22 t3 (V0 12)) w fun _ w =>
  kU P (Instr.storeAt 22 t4 v16) w fun _ w =>
  K (.tuple #[]) w) w
theorem F82_eq (P : Program) (t0 t1 t2 t3 t4 : Value) (w : World) (K : Value → World → Prop) : funE P ⟨[(0, 1008)], [], []⟩ Tryz.f82 [t0, t1, t2, t3, t4] w K = F82 P t0 t1 t2 t3 t4 w K := by kernel_rfl
theorem F82_ok (t0 t1 t2 t3 t4 : Value) (w : World) (K : Value → World → Prop) (h : F82 Tryz.prog t0 t1 t2 t3 t4 w K) : callsK Tryz.prog 82 #[t0, t1, t2, t3, t4] w K := calls_of_eq mixedX Tryz.func82 (F82_eq _ t0 t1 t2 t3 t4 w K) h

/-- mintmark/field.Sign -/
def F83 (P : Program) (t0 t1 : Value) (w : World) (K : Value → World → Prop) : Prop :=
  kV P (binV .lss 3 (.tmp 6) (.const (.int .i64 1)) t1 (.int .i64 1)) w fun v7 w =>
  joinK (fun J0 : Value → World → Prop => gdK (yb v7) false (fun k => k t1 w) w fun v9 w =>
  gdK (yb v7) false (fun k => kV P (binV .gtr 3 (.tmp 9) (.const (.int .i64 64)) v9 (.int .i64 64)) w k) w fun v10 w =>
  kN P (pickN v7 (.bool true) v10) w fun v11_1 w =>
  J0 v11_1 w) fun v11 w =>
  condK v11
  (K (.int .u64 0) w)
  (kV P (binV .sub 3 (.const (.int .i64 64)) (.tmp 12) (.int .i64 64) t1) w fun v13 w =>
  kV P (binV .shl 22 (.tmp 14) (.tmp 15) t0 v13) w fun v16 w =>
  kV P (convert 22 2 v16) w fun v17 w =>
  kV P (binV .shr 2 (.tmp 17) (.tmp 18) v17 v13) w fun v19 w =>
  kV P (convert 2 22 v19) w fun v20 w =>
  K v20 w)
theorem F83_eq (P : Program) (t0 t1 : Value) (w : World) (K : Value → World → Prop) : funE P ⟨[], [], []⟩ Tryz.f83 [t0, t1] w K = F83 P t0 t1 w K := by kernel_rfl
theorem F83_ok (t0 t1 : Value) (w : World) (K : Value → World → Prop) (h : F83 Tryz.prog t0 t1 w K) : callsK Tryz.prog 83 #[t0, t1] w K := calls_of_eq mixedX Tryz.func83 (F83_eq _ t0 t1 w K) h

/-- mintmark/capab.Right -/
def F86 (P : Program) (t0 : Value) (w : World) (K : Value → World → Prop) : Prop :=
  kV P (Instr.box 24 t0) w fun v1 w =>
  kV P (Instr.loadAt 24 v1) w fun v6 w =>
  kN P (callN (.func (.func 15) #[] #[]) #[v6]) w fun v7 w =>
  kV P (Instr.extract v7 0) w fun v8 w =>
  kV P (Instr.extract v7 1) w fun v9 w =>
  kV P (Instr.alloc 28 true (.tuple #[])) w fun v3 w =>
  kU P (Instr.storeAt 28 v3 v8) w fun _ w =>
  drewK (fun w =>
  relX fun R0 =>
  postX R0 (fun p0_10 => allX R0 w fun V0 w => True → (okX R0 w p0_10) v9 w) fun p0_10 =>
  postX R0 (fun p0_11 => allX R0 w fun V0 w => p0_10 (V0 10) w ∧ True → (okX R0 w p0_11) (V0 10) w) fun p0_11 =>
  postX R0 (fun p0_12 => allX R0 w fun V0 w => p0_11 (V0 11) w ∧ True → gdK (yb (V0 11)) true (fun k => kV P (Instr.fieldAt 24 v1 1) w k) w (okX R0 w p0_12)) fun p0_12 =>
  postX R0 (fun p0_13 => allX R0 w fun V0 w => p0_11 (V0 11) w ∧ p0_12 (V0 12) w ∧ True → gdK (yb (V0 11)) true (fun k => kV P (Instr.loadAt 22 (V0 12)) w k) w (okX R0 w p0_13)) fun p0_13 =>
  postX R0 (fun p0_14 => allX R0 w fun V0 w => p0_11 (V0 11) w ∧ p0_13 (V0 13) w ∧ True → gdK (yb (V0 11)) true (fun k => kN P (callN (.func (.func 42) #[] #[]) #[(V0 13)]) w k) w (okX R0 w p0_14)) fun p0_14 =>
  postX R0 (fun p0_15 => allX R0 w fun V0 w => p0_11 (V0 11) w ∧ True → gdK (yb (V0 11)) true (fun k => kV P (Instr.loadAt 28 v3) w k) w (okX R0 w p0_15)) fun p0_15 =>
  postX R0 (fun p0_16 => allX R0 w fun V0 w => p0_11 (V0 11) w ∧ p0_14 (V0 14) w ∧ p0_15 (V0 15) w ∧ True → gdK (yb (V0 11)) true (fun k => kN P (callN (.func (.func 20) #[] #[]) #[(V0 14), (V0 15)]) w k) w (okX R0 w p0_16)) fun p0_16 =>
  postX R0 (fun p0_17 => allX R0 w fun V0 w => p0_11 (V0 11) w ∧ True → gdK (yb (V0 11)) true (fun k => kV P (Instr.fieldAt 24 v1 1) w k) w (okX R0 w p0_17)) fun p0_17 =>
  postX R0 (fun p0_18 => allX R0 w fun V0 w => p0_11 (V0 11) w ∧ p0_17 (V0 17) w ∧ True → gdK (yb (V0 11)) true (fun k => kV P (Instr.loadAt 22 (V0 17)) w k) w (okX R0 w p0_18)) fun p0_18 =>
  postX R0 (fun p0_19 => allX R0 w fun V0 w => p0_11 (V0 11) w ∧ p0_16 (V0 16) w ∧ p0_18 (V0 18) w ∧ True → gdK (yb (V0 11)) true (fun k => kV P (binV .eql 22 (.tmp 16) (.tmp 18) (V0 16) (V0 18)) w k) w (okX R0 w p0_19)) fun p0_19 =>
  postX R0 (fun p0_20 => allX R0 w fun V0 w => p0_11 (V0 11) w ∧ p0_19 (V0 19) w ∧ True → kN P (pickN (V0 11) (V0 19) (.bool false)) w (okX R0 w p0_20)) fun p0_20 =>
  allX R0 w fun V0 w => p0_10 (V0 10) w ∧ p0_11 (V0 11) w ∧ p0_12 (V0 12) w ∧ p0_13 (V0 13) w ∧ p0_14 (V0 14) w ∧ p0_15 (V0 15) w ∧ p0_16 (V0 16) w ∧ p0_17 (V0 17) w ∧ p0_18 (V0 18) w ∧ p0_19 (V0 19) w ∧ p0_20 (V0 20) w ∧ True → xDist V0 [] →
  K (V0 20) w) w
theorem F86_eq (P : Program) (t0 : Value) (w : World) (K : Value → World → Prop) : funE P ⟨[(2, 1011)], [], []⟩ Tryz.f86 [t0] w K = F86 P t0 w K := by kernel_rfl
theorem F86_ok (t0 : Value) (w : World) (K : Value → World → Prop) (h : F86 Tryz.prog t0 w K) : callsK Tryz.prog 86 #[t0] w K := calls_of_eq mixedX Tryz.func86 (F86_eq _ t0 w K) h

/-- mintmark/algebra.Clear -/
def F87 (P : Program) (t0 : Value) (w : World) (K : Value → World → Prop) : Prop :=
  kV P (Instr.box 24 t0) w fun v1 w =>
  kV P (Instr.alloc 24 true (.tuple #[])) w fun v2 w =>
  kV P (Instr.fieldAt 24 v1 1) w fun v3 w =>
  kV P (Instr.loadAt 22 v3) w fun v4 w =>
  kV P (Instr.fieldAt 24 v1 2) w fun v5 w =>
  kV P (Instr.loadAt 22 v5) w fun v6 w =>
  kV P (Instr.build 24 #[(1, v4), (2, v6)]) w fun v7 w =>
  kU P (Instr.storeAt 24 v2 v7) w fun _ w =>
  retV P 24 v2 w fun r0 =>
  K r0 w
theorem F87_eq (P : Program) (t0 : Value) (w : World) (K : Value → World → Prop) : funE P ⟨[], [], []⟩ Tryz.f87 [t0] w K = F87 P t0 w K := by kernel_rfl
theorem F87_ok (t0 : Value) (w : World) (K : Value → World → Prop) (h : F87 Tryz.prog t0 w K) : callsK Tryz.prog 87 #[t0] w K := calls_of_eq mixedX Tryz.func87 (F87_eq _ t0 w K) h

/-- mintmark/field.Lay$1 -/
def F90 (P : Program) (t0 t1 : Value) (w : World) (K : Value → World → Prop) : Prop :=
  kV P (Instr.box 131 t0) w fun v2 w =>
  kV P (Instr.loadAt 22 t1) w fun v3 w =>
  kV P (Instr.fieldAt 131 v2 0) w fun v4 w =>
  kV P (Instr.loadAt 3 v4) w fun v5 w =>
  kV P (Instr.fieldAt 131 v2 1) w fun v6 w =>
  kV P (Instr.loadAt 3 v6) w fun v7 w =>
  kV P (Instr.fieldAt 131 v2 2) w fun v8 w =>
  kV P (Instr.loadAt 22 v8) w fun v9 w =>
  kN P (callN (.func (.func 41) #[] #[]) #[v3, v5, v7, v9]) w fun v10 w =>
  kU P (Instr.storeAt 22 t1 v10) w fun _ w =>
  K (.tuple #[]) w
theorem F90_eq (P : Program) (t0 t1 : Value) (w : World) (K : Value → World → Prop) : funE P ⟨[], [], []⟩ Tryz.f90 [t0, t1] w K = F90 P t0 t1 w K := by kernel_rfl
theorem F90_ok (t0 t1 : Value) (w : World) (K : Value → World → Prop) (h : F90 Tryz.prog t0 t1 w K) : callsK Tryz.prog 90 #[t0, t1] w K := calls_of_eq mixedX Tryz.func90 (F90_eq _ t0 t1 w K) h

/-- (mintmark/mintmarkref08.Ram).untag -/
def F92 (P : Program) (t0 t1 : Value) (w : World) (K : Value → World → Prop) : Prop :=
  kV P (Instr.box 35 t0) w fun v2 w =>
  kV P (Instr.alloc 35 true (.tuple #[])) w fun v4 w =>
  loopT (fun R0 s0 w => ∀ _ : Nat → Value,
  kV P (Instr.fieldAt 35 v2 3) w fun v8 w =>
  kV P (Instr.loadAt 32 v8) w fun v9 w =>
  kV P (Builtin.len_ #[32] 3 #[v9]) w fun v10 w =>
  kV P (binV .lss 3 (.tmp 7) (.tmp 10) (s0.getD 1 undef) v10) w fun v11 w =>
  condK v11
  (joinL (fun J2 =>
  kV P (Instr.fieldAt 35 v2 3) w fun v14 w =>
  kV P (Instr.loadAt 32 v14) w fun v15 w =>
  kV P (Instr.indexAt 32 v15 (s0.getD 1 undef)) w fun v17 w =>
  kV P (Instr.loadAt 22 v17) w fun v18 w =>
  kV P (binV .neq 22 (.tmp 18) (.tmp 19) v18 t1) w fun v20 w =>
  condK v20
  (kV P (Instr.fieldAt 35 v2 3) w fun v22 w =>
  kV P (Instr.loadAt 32 v22) w fun v23 w =>
  kV P (Instr.indexAt 32 v23 (s0.getD 1 undef)) w fun v25 w =>
  kV P (Instr.loadAt 22 v25) w fun v26 w =>
  kV P (Instr.buildSlice 32 1 #[(0, v26)]) w fun v27 w =>
  kV P (Builtin.append_ #[32, 32] 32 #[(s0.getD 0 undef), v27]) w fun v28 w =>
  J2 [v28] w)
  (J2 [(s0.getD 0 undef)] w)) fun s2 w => ∀ _ : Nat → Value,
  kV P (binV .add 3 (.tmp 12) (.const (.int .i64 1)) (s0.getD 1 undef) (.int .i64 1)) w fun v13 w =>
  R0 [(s2.getD 0 undef), v13] w)
  (kV P (Instr.fieldAt 35 v2 3) w fun v30 w =>
  kU P (Instr.storeAt 32 v30 (s0.getD 0 undef)) w fun _ w =>
  kV P (Instr.loadAt 35 v2) w fun v31 w =>
  kU P (Instr.storeAt 35 v4 v31) w fun _ w =>
  retV P 35 v4 w fun r4 =>
  K r4 w)) [(.slice none 0 0), (.int .i64 0)] w
theorem F92_eq (P : Program) (t0 t1 : Value) (w : World) (K : Value → World → Prop) : funE P ⟨[], [(3, [5, 6])], [(4, [5])]⟩ Tryz.f92 [t0, t1] w K = F92 P t0 t1 w K := by kernel_rfl
theorem F92_ok (t0 t1 : Value) (w : World) (K : Value → World → Prop) (h : F92 Tryz.prog t0 t1 w K) : callsK Tryz.prog 92 #[t0, t1] w K := calls_of_eq mixedX Tryz.func92 (F92_eq _ t0 t1 w K) h

/-- mintmark/scale.Add -/
def F94 (P : Program) (t0 t1 : Value) (w : World) (K : Value → World → Prop) : Prop :=
  kN P (callN (.func (.func 112) #[] #[]) #[t0, t1, (.int .u64 0)]) w fun v11 w =>
  kV P (Instr.extract v11 0) w fun v12 w =>
  kV P (Instr.extract v11 1) w fun v13 w =>
  kV P (binV .neq 22 (.tmp 15) (.const (.int .u64 0)) v13 (.int .u64 0)) w fun v16 w =>
  K (.tuple #[v12, v16]) w
theorem F94_eq (P : Program) (t0 t1 : Value) (w : World) (K : Value → World → Prop) : funE P ⟨[], [], []⟩ Tryz.f94 [t0, t1] w K = F94 P t0 t1 w K := by kernel_rfl
theorem F94_ok (t0 t1 : Value) (w : World) (K : Value → World → Prop) (h : F94 Tryz.prog t0 t1 w K) : callsK Tryz.prog 94 #[t0, t1] w K := calls_of_eq mixedX Tryz.func94 (F94_eq _ t0 t1 w K) h

/-- (*mintmark/exec.run).retire -/
def F96 (P : Program) (t0 : Value) (w : World) (K : Value → World → Prop) : Prop :=
  kV P (Instr.alloc 42 true (.tuple #[])) w fun v2 w =>
  kV P (Instr.alloc 51 true (.tuple #[])) w fun v3 w =>
  drewK (fun w =>
  relX fun R0 =>
  postX R0 (fun p0_4 => allX R0 w fun V0 w => True → (okX R0 w p0_4) t0 w) fun p0_4 =>
  postX R0 (fun p0_5 => allX R0 w fun V0 w => p0_4 (V0 4) w ∧ True → kN P (nilN (V0 4)) w (okX R0 w p0_5)) fun p0_5 =>
  postX R0 (fun p0_6 => allX R0 w fun V0 w => p0_5 (V0 5) w ∧ True → kV P (Instr.fieldAt 91 (V0 5) 0) w (okX R0 w p0_6)) fun p0_6 =>
  postX R0 (fun p0_7 => allX R0 w fun V0 w => p0_6 (V0 6) w ∧ True → kV P (Instr.loadAt 42 (V0 6)) w (okX R0 w p0_7)) fun p0_7 =>
  postX R0 (fun p0_8 => allX R0 w fun V0 w => True → (okX R0 w p0_8) t0 w) fun p0_8 =>
  postX R0 (fun p0_9 => allX R0 w fun V0 w => p0_8 (V0 8) w ∧ True → kN P (nilN (V0 8)) w (okX R0 w p0_9)) fun p0_9 =>
  postX R0 (fun p0_10 => allX R0 w fun V0 w => p0_9 (V0 9) w ∧ True → kV P (Instr.fieldAt 91 (V0 9) 3) w (okX R0 w p0_10)) fun p0_10 =>
  postX R0 (fun p0_11 => allX R0 w fun V0 w => p0_10 (V0 10) w ∧ True → kV P (Instr.loadAt 49 (V0 10)) w (okX R0 w p0_11)) fun p0_11 =>
  postX R0 (fun p0_12 => allX R0 w fun V0 w => p0_11 (V0 11) w ∧ True → kV P (Instr.build 51 #[(3, (V0 11))]) w (okX R0 w p0_12)) fun p0_12 =>
  postX R0 (fun p0_n9 => allX R0 w fun V0 w => p0_4 (V0 4) w ∧ p0_5 (V0 5) w ∧ p0_6 (V0 6) w ∧ p0_7 (V0 7) w ∧ True → kU P (Instr.storeAt 42 v2 (V0 7)) w (okX R0 w p0_n9)) fun p0_n9 =>
  allX R0 w fun V0 w => p0_4 (V0 4) w ∧ p0_5 (V0 5) w ∧ p0_6 (V0 6) w ∧ p0_7 (V0 7) w ∧ p0_8 (V0 8) w ∧ p0_9 (V0 9) w ∧ p0_10 (V0 10) w ∧ p0_11 (V0 11) w ∧ p0_12 (V0 12) w ∧ (∃ u, p0_n9 u w) ∧ True → xDist V0 [] →
  kU P (Instr.storeAt 51 v3 (V0 12)) w fun _ w =>
  retV P 42 v2 w fun r1 =>
  retV P 51 v3 w fun r2 =>
  K (.tuple #[r1, r2]) w) w
theorem F96_eq (P : Program) (t0 : Value) (w : World) (K : Value → World → Prop) : funE P ⟨[(1, 1010)], [], []⟩ Tryz.f96 [t0] w K = F96 P t0 w K := by kernel_rfl
theorem F96_ok (t0 : Value) (w : World) (K : Value → World → Prop) (h : F96 Tryz.prog t0 w K) : callsK Tryz.prog 96 #[t0] w K := calls_of_eq mixedX Tryz.func96 (F96_eq _ t0 w K) h

/-- mintmark/alu.Loads -/
def F97 (P : Program) (t0 : Value) (w : World) (K : Value → World → Prop) : Prop :=
  kV P (binV .geq 3 (.tmp 3) (.const (.int .i64 11)) t0 (.int .i64 11)) w fun v4 w =>
  joinK (fun J0 : Value → World → Prop => gdK (yb v4) true (fun k => k t0 w) w fun v6 w =>
  gdK (yb v4) true (fun k => kV P (binV .leq 3 (.tmp 6) (.const (.int .i64 17)) v6 (.int .i64 17)) w k) w fun v7 w =>
  kN P (pickN v4 v7 (.bool false)) w fun v8_1 w =>
  J0 v8_1 w) fun v8 w =>
  K v8 w
theorem F97_eq (P : Program) (t0 : Value) (w : World) (K : Value → World → Prop) : funE P ⟨[], [], []⟩ Tryz.f97 [t0] w K = F97 P t0 w K := by kernel_rfl
theorem F97_ok (t0 : Value) (w : World) (K : Value → World → Prop) (h : F97 Tryz.prog t0 w K) : callsK Tryz.prog 97 #[t0] w K := calls_of_eq mixedX Tryz.func97 (F97_eq _ t0 w K) h

/-- mintmark/alu.Stores -/
def F98 (P : Program) (t0 : Value) (w : World) (K : Value → World → Prop) : Prop :=
  kV P (binV .geq 3 (.tmp 3) (.const (.int .i64 18)) t0 (.int .i64 18)) w fun v4 w =>
  joinK (fun J0 : Value → World → Prop => gdK (yb v4) true (fun k => k t0 w) w fun v6 w =>
  gdK (yb v4) true (fun k => kV P (binV .leq 3 (.tmp 6) (.const (.int .i64 21)) v6 (.int .i64 21)) w k) w fun v7 w =>
  kN P (pickN v4 v7 (.bool false)) w fun v8_1 w =>
  J0 v8_1 w) fun v8 w =>
  K v8 w
theorem F98_eq (P : Program) (t0 : Value) (w : World) (K : Value → World → Prop) : funE P ⟨[], [], []⟩ Tryz.f98 [t0] w K = F98 P t0 w K := by kernel_rfl
theorem F98_ok (t0 : Value) (w : World) (K : Value → World → Prop) (h : F98 Tryz.prog t0 w K) : callsK Tryz.prog 98 #[t0] w K := calls_of_eq mixedX Tryz.func98 (F98_eq _ t0 w K) h

/-- mintmark/alu.told -/
def F102 (P : Program) (t0 : Value) (w : World) (K : Value → World → Prop) : Prop :=
  condK t0
  (K (.int .u64 1) w)
  (K (.int .u64 0) w)
theorem F102_eq (P : Program) (t0 : Value) (w : World) (K : Value → World → Prop) : funE P ⟨[], [], []⟩ Tryz.f102 [t0] w K = F102 P t0 w K := by kernel_rfl
theorem F102_ok (t0 : Value) (w : World) (K : Value → World → Prop) (h : F102 Tryz.prog t0 w K) : callsK Tryz.prog 102 #[t0] w K := calls_of_eq mixedX Tryz.func102 (F102_eq _ t0 w K) h

-- math/bits.Add64: no body
/-- (mintmark/mintmarklaw17.Flat).Fetch -/
def F158 (P : Program) (t0 t1 : Value) (w : World) (K : Value → World → Prop) : Prop :=
  kV P (Instr.box 55 t0) w fun v2 w =>
  kV P (Instr.fieldAt 55 v2 0) w fun v9 w =>
  kV P (Instr.loadAt 31 v9) w fun v10 w =>
  kN P (callN (.func (.func 147) #[] #[]) #[v10, t1, (.int .i64 4)]) w fun v12 w =>
  kV P (Instr.extract v12 0) w fun v13 w =>
  kV P (Instr.extract v12 1) w fun v14 w =>
  kV P (convert 22 38 v13) w fun v16 w =>
  kN P (callN (.func (.func 163) #[] #[]) #[v14]) w fun v18 w =>
  K (.tuple #[v16, v18]) w
theorem F158_eq (P : Program) (t0 t1 : Value) (w : World) (K : Value → World → Prop) : funE P ⟨[], [], []⟩ Tryz.f158 [t0, t1] w K = F158 P t0 t1 w K := by kernel_rfl
theorem F158_ok (t0 t1 : Value) (w : World) (K : Value → World → Prop) (h : F158 Tryz.prog t0 t1 w K) : callsK Tryz.prog 158 #[t0, t1] w K := calls_of_eq mixedX Tryz.func158 (F158_eq _ t0 t1 w K) h

/-- mintmark/mintmarklaw17.wrong -/
def F163 (P : Program) (t0 : Value) (w : World) (K : Value → World → Prop) : Prop :=
  kV P (binV .neq 3 (.tmp 3) (.const (.int .i64 0)) t0 (.int .i64 0)) w fun v4 w =>
  condK v4
  (K (.int .i64 1) w)
  (K (.int .i64 0) w)
theorem F163_eq (P : Program) (t0 : Value) (w : World) (K : Value → World → Prop) : funE P ⟨[], [], []⟩ Tryz.f163 [t0] w K = F163 P t0 w K := by kernel_rfl
theorem F163_ok (t0 : Value) (w : World) (K : Value → World → Prop) (h : F163 Tryz.prog t0 w K) : callsK Tryz.prog 163 #[t0] w K := calls_of_eq mixedX Tryz.func163 (F163_eq _ t0 w K) h

end Go.Proofs.YtplfniijbeinmaaGreat
