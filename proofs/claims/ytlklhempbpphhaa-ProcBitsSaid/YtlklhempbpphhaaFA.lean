/- The formulas of functions of this seat, each tied to its calls; conditions: none. -/
import Derived.Test.YtlklhempbpphhaaProg
import Derived.Test.YtlklhempbpphhaaFx
import Derived.KernelRfl
namespace Go.Proofs.Ytlklhempbpphhaa
open Go.Fx
set_option linter.unusedVariables false
set_option linter.constructorNameAsVariable false
set_option maxRecDepth 100000
theorem mixedA : Try.prog.follows .mixedOrders = true := by kernel_rfl
/-- mintmark/mintmarklaw27.ProcBits -/
def F3 (P : Program) (t0 : Value) (w : World) (K : Value → World → Prop) : Prop :=
  kN P (callN (.func (.func 12) #[] #[]) #[t0]) w fun v9 w =>
  kV P (Instr.extract v9 0) w fun v10 w =>
  kV P (Instr.extract v9 1) w fun v11 w =>
  kV P (Instr.extract v9 2) w fun v12 w =>
  kV P (Instr.alloc 24 true (.tuple #[])) w fun v3 w =>
  kU P (Instr.storeAt 24 v3 v10) w fun _ w =>
  joinL (fun J0 =>
  kV P (binV .leq 22 (.tmp 13) (.const (.int .u64 7)) t0 (.int .u64 7)) w fun v14 w =>
  condK v14
  (kV P (binV .rem 22 (.tmp 15) (.const (.int .u64 2)) t0 (.int .u64 2)) w fun v16 w =>
  kV P (binV .mul 22 (.tmp 16) (.const (.int .u64 9)) v16 (.int .u64 9)) w fun v17 w =>
  kV P (binV .quo 22 (.tmp 18) (.const (.int .u64 2)) t0 (.int .u64 2)) w fun v19 w =>
  kV P (binV .rem 22 (.tmp 19) (.const (.int .u64 2)) v19 (.int .u64 2)) w fun v20 w =>
  kV P (binV .mul 22 (.tmp 20) (.const (.int .u64 18)) v20 (.int .u64 18)) w fun v21 w =>
  kV P (binV .add 22 (.tmp 17) (.tmp 21) v17 v21) w fun v22 w =>
  kV P (binV .quo 22 (.tmp 23) (.const (.int .u64 4)) t0 (.int .u64 4)) w fun v24 w =>
  kV P (binV .mul 22 (.tmp 24) (.const (.int .u64 4)) v24 (.int .u64 4)) w fun v25 w =>
  kV P (binV .add 22 (.tmp 22) (.tmp 25) v22 v25) w fun v26 w =>
  J0 [v26] w)
  (J0 [(.int .u64 0)] w)) fun s0 w => ∀ _ : Nat → Value,
  kV P (binV .leq 22 (.tmp 28) (.const (.int .u64 7)) t0 (.int .u64 7)) w fun v29 w =>
  kV P (binV .eql 4 (.tmp 27) (.tmp 29) v12 v29) w fun v30 w =>
  joinK (fun J2 : Value → World → Prop => gdK (yb v30) true (fun k => k v11 w) w fun v32 w =>
  gdK (yb v30) true (fun k => k (s0.getD 0 undef) w) w fun v33 w =>
  gdK (yb v30) true (fun k => kV P (binV .eql 22 (.tmp 32) (.tmp 33) v32 v33) w k) w fun v34 w =>
  kN P (pickN v30 v34 (.bool false)) w fun v35_1 w =>
  J2 v35_1 w) fun v35 w =>
  joinK (fun J3 : Value → World → Prop => gdK (yb v35) true (fun k => k v12 w) w fun v37 w =>
  gdK (yb v35) true (fun k => k v37 w) w fun v38 w =>
  gdK (yb v38) true (fun k => kV P (Instr.fieldAt 24 v3 0) w k) w fun v39 w =>
  gdK (yb v38) true (fun k => kV P (Instr.loadAt 4 v39) w k) w fun v40 w =>
  gdK (yb v38) true (fun k => k t0 w) w fun v41 w =>
  gdK (yb v38) true (fun k => kV P (binV .rem 22 (.tmp 41) (.const (.int .u64 2)) v41 (.int .u64 2)) w k) w fun v42 w =>
  gdK (yb v38) true (fun k => kV P (binV .eql 22 (.tmp 42) (.const (.int .u64 1)) v42 (.int .u64 1)) w k) w fun v43 w =>
  gdK (yb v38) true (fun k => kV P (binV .eql 4 (.tmp 40) (.tmp 43) v40 v43) w k) w fun v44 w =>
  gdK (yb v35) true (fun k => kN P (pickN v38 v44 (.bool false)) w k) w fun v45 w =>
  gdK (yb v35) true (fun k => k v45 w) w fun v46 w =>
  gdK (yb v46) true (fun k => kV P (Instr.fieldAt 24 v3 1) w k) w fun v47 w =>
  gdK (yb v46) true (fun k => kV P (Instr.loadAt 4 v47) w k) w fun v48 w =>
  gdK (yb v46) true (fun k => k t0 w) w fun v49 w =>
  gdK (yb v46) true (fun k => kV P (binV .quo 22 (.tmp 49) (.const (.int .u64 2)) v49 (.int .u64 2)) w k) w fun v50 w =>
  gdK (yb v46) true (fun k => kV P (binV .rem 22 (.tmp 50) (.const (.int .u64 2)) v50 (.int .u64 2)) w k) w fun v51 w =>
  gdK (yb v46) true (fun k => kV P (binV .eql 22 (.tmp 51) (.const (.int .u64 1)) v51 (.int .u64 1)) w k) w fun v52 w =>
  gdK (yb v46) true (fun k => kV P (binV .eql 4 (.tmp 48) (.tmp 52) v48 v52) w k) w fun v53 w =>
  gdK (yb v35) true (fun k => kN P (pickN v46 v53 (.bool false)) w k) w fun v54 w =>
  gdK (yb v35) true (fun k => k v54 w) w fun v55 w =>
  gdK (yb v55) true (fun k => kV P (Instr.fieldAt 24 v3 2) w k) w fun v56 w =>
  gdK (yb v55) true (fun k => kV P (Instr.loadAt 4 v56) w k) w fun v57 w =>
  gdK (yb v55) true (fun k => k t0 w) w fun v58 w =>
  gdK (yb v55) true (fun k => kV P (binV .quo 22 (.tmp 58) (.const (.int .u64 4)) v58 (.int .u64 4)) w k) w fun v59 w =>
  gdK (yb v55) true (fun k => kV P (binV .eql 22 (.tmp 59) (.const (.int .u64 1)) v59 (.int .u64 1)) w k) w fun v60 w =>
  gdK (yb v55) true (fun k => kV P (binV .eql 4 (.tmp 57) (.tmp 60) v57 v60) w k) w fun v61 w =>
  gdK (yb v35) true (fun k => kN P (pickN v55 v61 (.bool false)) w k) w fun v62 w =>
  gdK (yb v35) true (fun k => k v62 w) w fun v63 w =>
  gdK (yb v63) false (fun k => k v12 w) w fun v64 w =>
  gdK (yb v63) false (fun k => kV P (Op.unary .not v64) w k) w fun v65 w =>
  gdK (yb v35) true (fun k => kN P (pickN v63 (.bool true) v65) w k) w fun v66 w =>
  kN P (pickN v35 v66 (.bool false)) w fun v67_1 w =>
  J3 v67_1 w) fun v67 w =>
  joinK (fun J4 : Value → World → Prop => gdK (yb v67) true (fun k => kN P (callN (.func (.func 13) #[] #[]) #[]) w k) w fun v69 w =>
  gdK (yb v67) true (fun k => kV P (Instr.build 28 #[(0, (.int .u64 65536)), (1, (.int .u64 16777216))]) w k) w fun v70 w =>
  gdK (yb v67) true (fun k => kV P (binV .eql 28 (.tmp 69) (.tmp 70) v69 v70) w k) w fun v71 w =>
  kN P (pickN v67 v71 (.bool false)) w fun v72_1 w =>
  J4 v72_1 w) fun v72 w =>
  K v72 w
theorem F3_eq (P : Program) (t0 : Value) (w : World) (K : Value → World → Prop) : funE P ⟨[], [], [(5, [6])]⟩ Try.f3 [t0] w K = F3 P t0 w K := by kernel_rfl
theorem F3_ok (t0 : Value) (w : World) (K : Value → World → Prop) (h : F3 Try.prog t0 w K) : callsK Try.prog 3 #[t0] w K := calls_of_eq mixedA Try.func3 (F3_eq _ t0 w K) h

/-- mintmark/proc.Prot -/
def F12 (P : Program) (t0 : Value) (w : World) (K : Value → World → Prop) : Prop :=
  kV P (Instr.alloc 24 true (.tuple #[])) w fun v2 w =>
  kV P (binV .gtr 22 (.tmp 7) (.const (.int .u64 7)) t0 (.int .u64 7)) w fun v8 w =>
  condK v8
  (kV P (Instr.build 24 #[]) w fun v9 w =>
  kU P (Instr.storeAt 24 v2 v9) w fun _ w =>
  retV P 24 v2 w fun r0 =>
  K (.tuple #[r0, (.int .u64 0), (.bool false)]) w)
  (kV P (binV .and 22 (.tmp 10) (.const (.int .u64 1)) t0 (.int .u64 1)) w fun v11 w =>
  kV P (binV .neq 22 (.tmp 11) (.const (.int .u64 0)) v11 (.int .u64 0)) w fun v12 w =>
  kV P (binV .and 22 (.tmp 13) (.const (.int .u64 2)) t0 (.int .u64 2)) w fun v14 w =>
  kV P (binV .neq 22 (.tmp 14) (.const (.int .u64 0)) v14 (.int .u64 0)) w fun v15 w =>
  kV P (binV .and 22 (.tmp 16) (.const (.int .u64 4)) t0 (.int .u64 4)) w fun v17 w =>
  kV P (binV .neq 22 (.tmp 17) (.const (.int .u64 0)) v17 (.int .u64 0)) w fun v18 w =>
  kV P (Instr.build 24 #[(0, v12), (1, v15), (2, v18)]) w fun v19 w =>
  kV P (Instr.alloc 24 true (.tuple #[])) w fun v5 w =>
  kU P (Instr.storeAt 24 v5 v19) w fun _ w =>
  joinL (fun J1 =>
  kV P (Instr.fieldAt 24 v5 0) w fun v20 w =>
  kV P (Instr.loadAt 4 v20) w fun v21 w =>
  condK v21
  (kV P (binV .or 22 (.tmp 22) (.const (.int .u64 9)) (.int .u64 0) (.int .u64 9)) w fun v23 w =>
  J1 [v23] w)
  (J1 [(.int .u64 0)] w)) fun s1 w => ∀ _ : Nat → Value,
  joinL (fun J3 =>
  kV P (Instr.fieldAt 24 v5 1) w fun v24 w =>
  kV P (Instr.loadAt 4 v24) w fun v25 w =>
  condK v25
  (kV P (binV .or 22 (.tmp 26) (.const (.int .u64 18)) (s1.getD 0 undef) (.int .u64 18)) w fun v27 w =>
  J3 [v27] w)
  (J3 [(s1.getD 0 undef)] w)) fun s3 w => ∀ _ : Nat → Value,
  joinL (fun J5 =>
  kV P (Instr.fieldAt 24 v5 2) w fun v28 w =>
  kV P (Instr.loadAt 4 v28) w fun v29 w =>
  condK v29
  (kV P (binV .or 22 (.tmp 30) (.const (.int .u64 4)) (s3.getD 0 undef) (.int .u64 4)) w fun v31 w =>
  J5 [v31] w)
  (J5 [(s3.getD 0 undef)] w)) fun s5 w => ∀ _ : Nat → Value,
  kV P (Instr.loadAt 24 v5) w fun v32 w =>
  kU P (Instr.storeAt 24 v2 v32) w fun _ w =>
  retV P 24 v2 w fun r7 =>
  K (.tuple #[r7, (s5.getD 0 undef), (.bool true)]) w)
theorem F12_eq (P : Program) (t0 : Value) (w : World) (K : Value → World → Prop) : funE P ⟨[], [], [(7, [6]), (9, [6]), (11, [6])]⟩ Try.f12 [t0] w K = F12 P t0 w K := by kernel_rfl
theorem F12_ok (t0 : Value) (w : World) (K : Value → World → Prop) (h : F12 Try.prog t0 w K) : callsK Try.prog 12 #[t0] w K := calls_of_eq mixedA Try.func12 (F12_eq _ t0 w K) h

/-- mintmark/proc.Room -/
def F13 (P : Program) (w : World) (K : Value → World → Prop) : Prop :=
  kV P (Instr.alloc 28 true (.tuple #[])) w fun v0 w =>
  kV P (Instr.build 28 #[(0, (.int .u64 65536)), (1, (.int .u64 16777216))]) w fun v1 w =>
  kU P (Instr.storeAt 28 v0 v1) w fun _ w =>
  retV P 28 v0 w fun r0 =>
  K r0 w
theorem F13_eq (P : Program) (w : World) (K : Value → World → Prop) : funE P ⟨[], [], []⟩ Try.f13 [] w K = F13 P  w K := by kernel_rfl
theorem F13_ok (w : World) (K : Value → World → Prop) (h : F13 Try.prog  w K) : callsK Try.prog 13 #[] w K := calls_of_eq mixedA Try.func13 (F13_eq _  w K) h

end Go.Proofs.Ytlklhempbpphhaa
