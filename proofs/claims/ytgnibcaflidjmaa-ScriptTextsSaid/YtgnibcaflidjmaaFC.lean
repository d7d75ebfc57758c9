/- The formulas of functions of this seat, each tied to its calls; conditions: none. -/
import Derived.Test.YtgnibcaflidjmaaProg
import Derived.Test.YtgnibcaflidjmaaFx
import Derived.KernelRfl
namespace Go.Proofs.Ytgnibcaflidjmaa
open Go.Fx
set_option linter.unusedVariables false
set_option linter.constructorNameAsVariable false
set_option maxRecDepth 100000
theorem mixedC : Try.prog.follows .mixedOrders = true := by kernel_rfl
/-- mintmark/mintmarklaw29.ScriptTexts -/
def F4 (P : Program) (t0 t1 : Value) (w : World) (K : Value → World → Prop) : Prop :=
  kV P (Instr.box 35 t0) w fun v2 w =>
  joinL (fun J0 =>
  kV P (Builtin.len_ #[36] 3 #[t1]) w fun v9 w =>
  kV P (binV .gtr 3 (.tmp 9) (.const (.int .i64 50)) v9 (.int .i64 50)) w fun v10 w =>
  condK v10
  (kV P (Instr.sliceAt 36 t1 none (some (.int .i64 50)) none) w fun v12 w =>
  J0 [v12] w)
  (J0 [t1] w)) fun s0 w => ∀ _ : Nat → Value,
  loopT (fun R2 s2 w => ∀ _ : Nat → Value,
  kV P (Builtin.len_ #[36] 3 #[(s0.getD 0 undef)]) w fun v15 w =>
  kV P (binV .lss 3 (.tmp 13) (.tmp 15) (s2.getD 1 undef) v15) w fun v16 w =>
  condK v16
  (joinL (fun J4 =>
  drewK (fun w =>
  sV P (Instr.indexAt 36 (s0.getD 0 undef) (s2.getD 1 undef)) w fun v21 =>
  sV P (Instr.fieldAt 35 v21 0) w fun v22 =>
  sV P (Instr.loadAt 3 v22) w fun v23 =>
  sV P (Instr.fieldAt 35 v2 0) w fun v24 =>
  sV P (Instr.loadAt 3 v24) w fun v25 =>
  sV P (binV .eql 3 (.tmp 23) (.tmp 25) v23 v25) w fun v26 =>
  condK v26
  (kV P (Instr.indexAt 36 (s0.getD 0 undef) (s2.getD 1 undef)) w fun v31 w =>
  kV P (Instr.loadAt 35 v31) w fun v32 w =>
  kN P (callN (.func (.func 13) #[] #[]) #[v32]) w fun v33 w =>
  kV P (binV .add 9 (.tmp 27) (.tmp 33) (s2.getD 0 undef) v33) w fun v34 w =>
  J4 [v34] w)
  (J4 [(s2.getD 0 undef)] w)) w) fun s4 w => ∀ _ : Nat → Value,
  kV P (binV .add 3 (.tmp 17) (.const (.int .i64 1)) (s2.getD 1 undef) (.int .i64 1)) w fun v18 w =>
  R2 [(s4.getD 0 undef), v18] w)
  (drewK (fun w =>
  (kV P (Instr.loadAt 35 v2) w fun v35 w =>
  (kN P (callN (.func (.func 15) #[] #[]) #[v35]) w fun v36 w =>
  kV P (Instr.loadAt 35 v2) w fun v38 w =>
  kN P (callN (.func (.func 13) #[] #[]) #[v38]) w fun v39 w =>
  pV P (binV .eql 9 (.tmp 36) (.tmp 39) v36 v39) fun v40 =>
  gdP (yb v40) true (fun k => k (s0.getD 0 undef)) fun v42 =>
  gdP (yb v40) true (fun k => pV P (Instr.fieldAt 35 v2 0) k) fun v43 =>
  gdP (yb v40) true (fun k => k (s2.getD 0 undef)) fun v46 =>
  gdK (yb v40) true (fun k => kV P (Instr.loadAt 3 v43) w k) w fun v44 w =>
  gdK (yb v40) true (fun k => kN P (callN (.func (.func 16) #[] #[]) #[v42, v44]) w k) w fun v45 w =>
  gdP (yb v40) true (fun k => pV P (binV .eql 9 (.tmp 45) (.tmp 46) v45 v46) k) fun v47 =>
  pN P (pickN v40 v47 (.bool false)) fun v48 =>
  gdK (yb v48) true (fun k => kN P (callN (.func (.func 17) #[] #[]) #[]) w k) w fun v50 w =>
  pN P (pickN v48 v50 (.bool false)) fun v51 =>
  K v51 w) ∧
  (kV P (Instr.loadAt 35 v2) w fun v38_1 w =>
  kN P (callN (.func (.func 15) #[] #[]) #[v35]) w fun v36_1 w =>
  kN P (callN (.func (.func 13) #[] #[]) #[v38_1]) w fun v39_1 w =>
  pV P (binV .eql 9 (.tmp 36) (.tmp 39) v36_1 v39_1) fun v40_1 =>
  gdP (yb v40_1) true (fun k => k (s0.getD 0 undef)) fun v42_1 =>
  gdP (yb v40_1) true (fun k => pV P (Instr.fieldAt 35 v2 0) k) fun v43_1 =>
  gdP (yb v40_1) true (fun k => k (s2.getD 0 undef)) fun v46_1 =>
  gdK (yb v40_1) true (fun k => kV P (Instr.loadAt 3 v43_1) w k) w fun v44_1 w =>
  gdK (yb v40_1) true (fun k => kN P (callN (.func (.func 16) #[] #[]) #[v42_1, v44_1]) w k) w fun v45_1 w =>
  gdP (yb v40_1) true (fun k => pV P (binV .eql 9 (.tmp 45) (.tmp 46) v45_1 v46_1) k) fun v47_1 =>
  pN P (pickN v40_1 v47_1 (.bool false)) fun v48_1 =>
  gdK (yb v48_1) true (fun k => kN P (callN (.func (.func 17) #[] #[]) #[]) w k) w fun v50_1 w =>
  pN P (pickN v48_1 v50_1 (.bool false)) fun v51_1 =>
  K v51_1 w)) ∧
  (kV P (Instr.loadAt 35 v2) w fun v38_2 w =>
  kV P (Instr.loadAt 35 v2) w fun v35_1 w =>
  kN P (callN (.func (.func 15) #[] #[]) #[v35_1]) w fun v36_2 w =>
  kN P (callN (.func (.func 13) #[] #[]) #[v38_2]) w fun v39_2 w =>
  pV P (binV .eql 9 (.tmp 36) (.tmp 39) v36_2 v39_2) fun v40_2 =>
  gdP (yb v40_2) true (fun k => k (s0.getD 0 undef)) fun v42_2 =>
  gdP (yb v40_2) true (fun k => pV P (Instr.fieldAt 35 v2 0) k) fun v43_2 =>
  gdP (yb v40_2) true (fun k => k (s2.getD 0 undef)) fun v46_2 =>
  gdK (yb v40_2) true (fun k => kV P (Instr.loadAt 3 v43_2) w k) w fun v44_2 w =>
  gdK (yb v40_2) true (fun k => kN P (callN (.func (.func 16) #[] #[]) #[v42_2, v44_2]) w k) w fun v45_2 w =>
  gdP (yb v40_2) true (fun k => pV P (binV .eql 9 (.tmp 45) (.tmp 46) v45_2 v46_2) k) fun v47_2 =>
  pN P (pickN v40_2 v47_2 (.bool false)) fun v48_2 =>
  gdK (yb v48_2) true (fun k => kN P (callN (.func (.func 17) #[] #[]) #[]) w k) w fun v50_2 w =>
  pN P (pickN v48_2 v50_2 (.bool false)) fun v51_2 =>
  K v51_2 w)) w)) [(.string ⟨#[]⟩), (.int .i64 0)] w
theorem F4_eq (P : Program) (t0 t1 : Value) (w : World) (K : Value → World → Prop) : funE P ⟨[(10, 999)], [(6, [6, 7])], [(4, [1]), (7, [6])]⟩ Try.f4 [t0, t1] w K = F4 P t0 t1 w K := by kernel_rfl
theorem F4_ok (t0 t1 : Value) (w : World) (K : Value → World → Prop) (h : F4 Try.prog t0 t1 w K) : callsK Try.prog 4 #[t0, t1] w K := calls_of_eq mixedC Try.func4 (F4_eq _ t0 t1 w K) h

/-- mintmark/mintmarklaw29.ScriptTraces -/
def F5 (P : Program) (t0 t1 t2 : Value) (w : World) (K : Value → World → Prop) : Prop :=
  kV P (Builtin.len_ #[36] 3 #[t0]) w fun v12 w =>
  kV P (binV .gtr 3 (.tmp 12) (.const (.int .i64 40)) v12 (.int .i64 40)) w fun v13 w =>
  joinK (fun J0 : Value → World → Prop => gdK (yb v13) false (fun k => k t1 w) w fun v15 w =>
  gdK (yb v13) false (fun k => kV P (Builtin.len_ #[36] 3 #[v15]) w k) w fun v16 w =>
  gdK (yb v13) false (fun k => kV P (binV .gtr 3 (.tmp 16) (.const (.int .i64 40)) v16 (.int .i64 40)) w k) w fun v17 w =>
  kN P (pickN v13 (.bool true) v17) w fun v18_1 w =>
  J0 v18_1 w) fun v18 w =>
  condK v18
  (K (.bool true) w)
  (kV P (Instr.buildSlice 36 0 #[]) w fun v19 w =>
  kV P (Builtin.append_ #[36, 36] 36 #[v19, t0]) w fun v21 w =>
  kV P (Builtin.append_ #[36, 36] 36 #[v21, t1]) w fun v23 w =>
  loopT (fun R1 s1 w => ∀ _ : Nat → Value,
  kV P (Builtin.len_ #[36] 3 #[v23]) w fun v26 w =>
  kV P (binV .lss 3 (.tmp 24) (.tmp 26) (s1.getD 1 undef) v26) w fun v27 w =>
  condK v27
  (joinK (fun J3 : Value → World → Prop => gdK (yb (s1.getD 0 undef)) true (fun k => k v23 w) w fun v32 w =>
  gdK (yb (s1.getD 0 undef)) true (fun k => k (s1.getD 1 undef) w) w fun v33 w =>
  gdK (yb (s1.getD 0 undef)) true (fun k => kV P (Instr.indexAt 36 v32 v33) w k) w fun v34 w =>
  gdK (yb (s1.getD 0 undef)) true (fun k => kV P (Instr.fieldAt 35 v34 0) w k) w fun v35 w =>
  gdK (yb (s1.getD 0 undef)) true (fun k => kV P (Instr.loadAt 3 v35) w k) w fun v36 w =>
  gdK (yb (s1.getD 0 undef)) true (fun k => k t2 w) w fun v37 w =>
  gdK (yb (s1.getD 0 undef)) true (fun k => kV P (binV .neq 3 (.tmp 36) (.tmp 37) v36 v37) w k) w fun v38 w =>
  kN P (pickN (s1.getD 0 undef) v38 (.bool false)) w fun v39_1 w =>
  J3 v39_1 w) fun v39 w =>
  kV P (binV .add 3 (.tmp 28) (.const (.int .i64 1)) (s1.getD 1 undef) (.int .i64 1)) w fun v29 w =>
  R1 [v39, v29] w)
  (kN P (callN (.func (.func 16) #[] #[]) #[v23, t2]) w fun v42 w =>
  kN P (callN (.func (.func 16) #[] #[]) #[t0, t2]) w fun v46 w =>
  kN P (callN (.func (.func 16) #[] #[]) #[t1, t2]) w fun v49 w =>
  kV P (binV .add 9 (.tmp 46) (.tmp 49) v46 v49) w fun v50 w =>
  kV P (binV .eql 9 (.tmp 43) (.tmp 50) v42 v50) w fun v51 w =>
  joinK (fun J4 : Value → World → Prop => gdK (yb v51) true (fun k => k (s1.getD 0 undef) w) w fun v53 w =>
  gdK (yb v51) true (fun k => k v42 w) w fun v54 w =>
  gdK (yb v51) true (fun k => kV P (binV .eql 9 (.tmp 54) (.const (.string ⟨#[]⟩)) v54 (.string ⟨#[]⟩)) w k) w fun v55 w =>
  gdK (yb v51) true (fun k => kV P (binV .eql 4 (.tmp 53) (.tmp 55) v53 v55) w k) w fun v56 w =>
  kN P (pickN v51 v56 (.bool false)) w fun v57_1 w =>
  J4 v57_1 w) fun v57 w =>
  joinK (fun J5 : Value → World → Prop => gdK (yb v57) true (fun k => kN P (callN (.func (.func 17) #[] #[]) #[]) w k) w fun v59 w =>
  kN P (pickN v57 v59 (.bool false)) w fun v60_1 w =>
  J5 v60_1 w) fun v60 w =>
  K v60 w)) [(.bool true), (.int .i64 0)] w)
theorem F5_eq (P : Program) (t0 t1 t2 : Value) (w : World) (K : Value → World → Prop) : funE P ⟨[], [(6, [8, 9])], []⟩ Try.f5 [t0, t1, t2] w K = F5 P t0 t1 t2 w K := by kernel_rfl
theorem F5_ok (t0 t1 t2 : Value) (w : World) (K : Value → World → Prop) (h : F5 Try.prog t0 t1 t2 w K) : callsK Try.prog 5 #[t0, t1, t2] w K := calls_of_eq mixedC Try.func5 (F5_eq _ t0 t1 t2 w K) h

/-- mintmark/mintmarklaw29.ScriptTexts$1 -/
def F13 (P : Program) (t0 : Value) (w : World) (K : Value → World → Prop) : Prop :=
  kV P (Instr.box 35 t0) w fun v1 w =>
  kV P (Instr.fieldAt 35 v1 0) w fun v3 w =>
  kV P (Instr.loadAt 3 v3) w fun v4 w =>
  kV P (Instr.fieldAt 35 v1 1) w fun v5 w =>
  kV P (Instr.loadAt 3 v5) w fun v6 w =>
  kV P (Instr.fieldAt 35 v1 2) w fun v7 w =>
  kV P (Instr.loadAt 28 v7) w fun v8 w =>
  kV P (Instr.fieldAt 35 v1 3) w fun v9 w =>
  kV P (Instr.loadAt 3 v9) w fun v10 w =>
  kV P (Instr.fieldAt 35 v1 4) w fun v11 w =>
  kV P (Instr.loadAt 3 v11) w fun v12 w =>
  kV P (Instr.fieldAt 35 v1 5) w fun v13 w =>
  kV P (Instr.loadAt 33 v13) w fun v14 w =>
  kV P (Instr.build 40 #[(0, v4), (1, v6), (2, v8), (3, v10), (4, v12), (5, v14)]) w fun v15 w =>
  kN P (callN (.func (.func 14) #[] #[]) #[v15]) w fun v16 w =>
  K v16 w
theorem F13_eq (P : Program) (t0 : Value) (w : World) (K : Value → World → Prop) : funE P ⟨[], [], []⟩ Try.f13 [t0] w K = F13 P t0 w K := by kernel_rfl
theorem F13_ok (t0 : Value) (w : World) (K : Value → World → Prop) (h : F13 Try.prog t0 w K) : callsK Try.prog 13 #[t0] w K := calls_of_eq mixedC Try.func13 (F13_eq _ t0 w K) h

/-- mintmark/mintmarkref29.Text -/
def F14 (P : Program) (t0 : Value) (w : World) (K : Value → World → Prop) : Prop :=
  kV P (Instr.box 40 t0) w fun v1 w =>
  joinL (fun J0 =>
  drewK (fun w =>
  pV P (Instr.fieldAt 40 v1 0) fun v6 =>
  pV P (Instr.fieldAt 40 v1 2) fun v11 =>
  (kV P (Instr.loadAt 3 v6) w fun v7 w =>
  (kN P (callN (.func (.func 31) #[] #[]) #[v7]) w fun v8 w =>
  pV P (binV .add 9 (.const (.string ⟨#[112]⟩)) (.tmp 8) (.string ⟨#[112]⟩) v8) fun v9 =>
  pV P (binV .add 9 (.tmp 9) (.const (.string ⟨#[32]⟩)) v9 (.string ⟨#[32]⟩)) fun v10 =>
  kV P (Instr.loadAt 28 v11) w fun v12 w =>
  kN P (callN (.func (.func 32) #[] #[]) #[v12, (.int .u64 16)]) w fun v13 w =>
  pV P (binV .add 9 (.tmp 10) (.tmp 13) v10 v13) fun v14 =>
  pV P (binV .add 9 (.tmp 14) (.const (.string ⟨#[32]⟩)) v14 (.string ⟨#[32]⟩)) fun v15 =>
  J0 [v15] w) ∧
  (kV P (Instr.loadAt 28 v11) w fun v12_1 w =>
  kN P (callN (.func (.func 31) #[] #[]) #[v7]) w fun v8_1 w =>
  pV P (binV .add 9 (.const (.string ⟨#[112]⟩)) (.tmp 8) (.string ⟨#[112]⟩) v8_1) fun v9_1 =>
  pV P (binV .add 9 (.tmp 9) (.const (.string ⟨#[32]⟩)) v9_1 (.string ⟨#[32]⟩)) fun v10_1 =>
  kN P (callN (.func (.func 32) #[] #[]) #[v12_1, (.int .u64 16)]) w fun v13_1 w =>
  pV P (binV .add 9 (.tmp 10) (.tmp 13) v10_1 v13_1) fun v14_1 =>
  pV P (binV .add 9 (.tmp 14) (.const (.string ⟨#[32]⟩)) v14_1 (.string ⟨#[32]⟩)) fun v15_1 =>
  J0 [v15_1] w)) ∧
  (kV P (Instr.loadAt 28 v11) w fun v12_2 w =>
  kV P (Instr.loadAt 3 v6) w fun v7_1 w =>
  kN P (callN (.func (.func 31) #[] #[]) #[v7_1]) w fun v8_2 w =>
  pV P (binV .add 9 (.const (.string ⟨#[112]⟩)) (.tmp 8) (.string ⟨#[112]⟩) v8_2) fun v9_2 =>
  pV P (binV .add 9 (.tmp 9) (.const (.string ⟨#[32]⟩)) v9_2 (.string ⟨#[32]⟩)) fun v10_2 =>
  kN P (callN (.func (.func 32) #[] #[]) #[v12_2, (.int .u64 16)]) w fun v13_2 w =>
  pV P (binV .add 9 (.tmp 10) (.tmp 13) v10_2 v13_2) fun v14_2 =>
  pV P (binV .add 9 (.tmp 14) (.const (.string ⟨#[32]⟩)) v14_2 (.string ⟨#[32]⟩)) fun v15_2 =>
  J0 [v15_2] w)) w) fun s0 w => ∀ _ : Nat → Value,
  kV P (Instr.fieldAt 40 v1 1) w fun v16 w =>
  kV P (Instr.loadAt 3 v16) w fun v17 w =>
  kV P (binV .eql 3 (.tmp 17) (.const (.int .i64 0)) v17 (.int .i64 0)) w fun v19 w =>
  condK v19
  (kN P (callN (.func (.func 33) #[] #[]) #[]) w fun v20 w =>
  joinL (fun J2 =>
  kV P (Instr.fieldAt 40 v1 3) w fun v21 w =>
  kV P (Instr.loadAt 3 v21) w fun v22 w =>
  kV P (binV .geq 3 (.tmp 22) (.const (.int .i64 1)) v22 (.int .i64 1)) w fun v23 w =>
  joinK (fun J4 : Value → World → Prop => gdK (yb v23) true (fun k => kV P (Instr.fieldAt 40 v1 3) w k) w fun v25 w =>
  gdK (yb v23) true (fun k => kV P (Instr.loadAt 3 v25) w k) w fun v26 w =>
  gdK (yb v23) true (fun k => k v20 w) w fun v27 w =>
  gdK (yb v23) true (fun k => kV P (Builtin.len_ #[73] 3 #[v27]) w k) w fun v28 w =>
  gdK (yb v23) true (fun k => kV P (binV .leq 3 (.tmp 26) (.tmp 28) v26 v28) w k) w fun v29 w =>
  kN P (pickN v23 v29 (.bool false)) w fun v30_1 w =>
  J4 v30_1 w) fun v30 w =>
  condK v30
  (kV P (Instr.fieldAt 40 v1 3) w fun v32 w =>
  kV P (Instr.loadAt 3 v32) w fun v33 w =>
  kV P (binV .sub 3 (.tmp 33) (.const (.int .i64 1)) v33 (.int .i64 1)) w fun v34 w =>
  kV P (Instr.indexAt 73 v20 v34) w fun v35 w =>
  kV P (Instr.fieldAt 77 v35 0) w fun v36 w =>
  kV P (Instr.loadAt 9 v36) w fun v37 w =>
  J2 [v37] w)
  (J2 [(.string ⟨#[]⟩)] w)) fun s2 w => ∀ _ : Nat → Value,
  kV P (binV .add 9 (.tmp 38) (.tmp 39) (s0.getD 0 undef) (s2.getD 0 undef)) w fun v40 w =>
  kV P (binV .add 9 (.tmp 40) (.const (.string ⟨#[32]⟩)) v40 (.string ⟨#[32]⟩)) w fun v41 w =>
  kV P (Instr.fieldAt 40 v1 5) w fun v42 w =>
  kV P (Instr.loadAt 38 v42) w fun v43 w =>
  kN P (callN (.func (.func 34) #[] #[]) #[v43]) w fun v44 w =>
  kV P (binV .add 9 (.tmp 41) (.tmp 44) v41 v44) w fun v45 w =>
  kV P (binV .add 9 (.tmp 45) (.const (.string ⟨#[10]⟩)) v45 (.string ⟨#[10]⟩)) w fun v46 w =>
  K v46 w)
  (kV P (binV .eql 3 (.tmp 17) (.const (.int .i64 1)) v17 (.int .i64 1)) w fun v48 w =>
  condK v48
  (drewK (fun w =>
  pV P (binV .add 9 (.tmp 49) (.const (.string ⟨#[99, 97, 108, 108, 32]⟩)) (s0.getD 0 undef) (.string ⟨#[99, 97, 108, 108, 32]⟩)) fun v50 =>
  pV P (Instr.fieldAt 40 v1 3) fun v51 =>
  pV P (Instr.fieldAt 40 v1 4) fun v56 =>
  pV P (Instr.fieldAt 40 v1 5) fun v61 =>
  (kV P (Instr.loadAt 3 v51) w fun v52 w =>
  (kN P (callN (.func (.func 31) #[] #[]) #[v52]) w fun v53 w =>
  pV P (binV .add 9 (.tmp 50) (.tmp 53) v50 v53) fun v54 =>
  pV P (binV .add 9 (.tmp 54) (.const (.string ⟨#[32]⟩)) v54 (.string ⟨#[32]⟩)) fun v55 =>
  (kV P (Instr.loadAt 3 v56) w fun v57 w =>
  (kN P (callN (.func (.func 31) #[] #[]) #[v57]) w fun v58 w =>
  pV P (binV .add 9 (.tmp 55) (.tmp 58) v55 v58) fun v59 =>
  pV P (binV .add 9 (.tmp 59) (.const (.string ⟨#[32]⟩)) v59 (.string ⟨#[32]⟩)) fun v60 =>
  kV P (Instr.loadAt 38 v61) w fun v62 w =>
  kN P (callN (.func (.func 34) #[] #[]) #[v62]) w fun v63 w =>
  pV P (binV .add 9 (.tmp 60) (.tmp 63) v60 v63) fun v64 =>
  pV P (binV .add 9 (.tmp 64) (.const (.string ⟨#[10]⟩)) v64 (.string ⟨#[10]⟩)) fun v65 =>
  K v65 w) ∧
  (kV P (Instr.loadAt 38 v61) w fun v62_1 w =>
  kN P (callN (.func (.func 31) #[] #[]) #[v57]) w fun v58_1 w =>
  pV P (binV .add 9 (.tmp 55) (.tmp 58) v55 v58_1) fun v59_1 =>
  pV P (binV .add 9 (.tmp 59) (.const (.string ⟨#[32]⟩)) v59_1 (.string ⟨#[32]⟩)) fun v60_1 =>
  kN P (callN (.func (.func 34) #[] #[]) #[v62_1]) w fun v63_1 w =>
  pV P (binV .add 9 (.tmp 60) (.tmp 63) v60_1 v63_1) fun v64_1 =>
  pV P (binV .add 9 (.tmp 64) (.const (.string ⟨#[10]⟩)) v64_1 (.string ⟨#[10]⟩)) fun v65_1 =>
  K v65_1 w)) ∧
  (kV P (Instr.loadAt 38 v61) w fun v62_2 w =>
  kV P (Instr.loadAt 3 v56) w fun v57_1 w =>
  kN P (callN (.func (.func 31) #[] #[]) #[v57_1]) w fun v58_2 w =>
  pV P (binV .add 9 (.tmp 55) (.tmp 58) v55 v58_2) fun v59_2 =>
  pV P (binV .add 9 (.tmp 59) (.const (.string ⟨#[32]⟩)) v59_2 (.string ⟨#[32]⟩)) fun v60_2 =>
  kN P (callN (.func (.func 34) #[] #[]) #[v62_2]) w fun v63_2 w =>
  pV P (binV .add 9 (.tmp 60) (.tmp 63) v60_2 v63_2) fun v64_2 =>
  pV P (binV .add 9 (.tmp 64) (.const (.string ⟨#[10]⟩)) v64_2 (.string ⟨#[10]⟩)) fun v65_2 =>
  K v65_2 w)) ∧
  (kV P (Instr.loadAt 3 v56) w fun v57_2 w =>
  (kN P (callN (.func (.func 31) #[] #[]) #[v52]) w fun v53_1 w =>
  pV P (binV .add 9 (.tmp 50) (.tmp 53) v50 v53_1) fun v54_1 =>
  pV P (binV .add 9 (.tmp 54) (.const (.string ⟨#[32]⟩)) v54_1 (.string ⟨#[32]⟩)) fun v55_1 =>
  (kN P (callN (.func (.func 31) #[] #[]) #[v57_2]) w fun v58_3 w =>
  pV P (binV .add 9 (.tmp 55) (.tmp 58) v55_1 v58_3) fun v59_3 =>
  pV P (binV .add 9 (.tmp 59) (.const (.string ⟨#[32]⟩)) v59_3 (.string ⟨#[32]⟩)) fun v60_3 =>
  kV P (Instr.loadAt 38 v61) w fun v62_3 w =>
  kN P (callN (.func (.func 34) #[] #[]) #[v62_3]) w fun v63_3 w =>
  pV P (binV .add 9 (.tmp 60) (.tmp 63) v60_3 v63_3) fun v64_3 =>
  pV P (binV .add 9 (.tmp 64) (.const (.string ⟨#[10]⟩)) v64_3 (.string ⟨#[10]⟩)) fun v65_3 =>
  K v65_3 w) ∧
  (kV P (Instr.loadAt 38 v61) w fun v62_4 w =>
  kN P (callN (.func (.func 31) #[] #[]) #[v57_2]) w fun v58_4 w =>
  pV P (binV .add 9 (.tmp 55) (.tmp 58) v55_1 v58_4) fun v59_4 =>
  pV P (binV .add 9 (.tmp 59) (.const (.string ⟨#[32]⟩)) v59_4 (.string ⟨#[32]⟩)) fun v60_4 =>
  kN P (callN (.func (.func 34) #[] #[]) #[v62_4]) w fun v63_4 w =>
  pV P (binV .add 9 (.tmp 60) (.tmp 63) v60_4 v63_4) fun v64_4 =>
  pV P (binV .add 9 (.tmp 64) (.const (.string ⟨#[10]⟩)) v64_4 (.string ⟨#[10]⟩)) fun v65_4 =>
  K v65_4 w)) ∧
  (kV P (Instr.loadAt 38 v61) w fun v62_5 w =>
  kN P (callN (.func (.func 31) #[] #[]) #[v52]) w fun v53_2 w =>
  pV P (binV .add 9 (.tmp 50) (.tmp 53) v50 v53_2) fun v54_2 =>
  pV P (binV .add 9 (.tmp 54) (.const (.string ⟨#[32]⟩)) v54_2 (.string ⟨#[32]⟩)) fun v55_2 =>
  kN P (callN (.func (.func 31) #[] #[]) #[v57_2]) w fun v58_5 w =>
  pV P (binV .add 9 (.tmp 55) (.tmp 58) v55_2 v58_5) fun v59_5 =>
  pV P (binV .add 9 (.tmp 59) (.const (.string ⟨#[32]⟩)) v59_5 (.string ⟨#[32]⟩)) fun v60_5 =>
  kN P (callN (.func (.func 34) #[] #[]) #[v62_5]) w fun v63_5 w =>
  pV P (binV .add 9 (.tmp 60) (.tmp 63) v60_5 v63_5) fun v64_5 =>
  pV P (binV .add 9 (.tmp 64) (.const (.string ⟨#[10]⟩)) v64_5 (.string ⟨#[10]⟩)) fun v65_5 =>
  K v65_5 w)) ∧
  (kV P (Instr.loadAt 38 v61) w fun v62_6 w =>
  (kN P (callN (.func (.func 31) #[] #[]) #[v52]) w fun v53_3 w =>
  pV P (binV .add 9 (.tmp 50) (.tmp 53) v50 v53_3) fun v54_3 =>
  pV P (binV .add 9 (.tmp 54) (.const (.string ⟨#[32]⟩)) v54_3 (.string ⟨#[32]⟩)) fun v55_3 =>
  kV P (Instr.loadAt 3 v56) w fun v57_3 w =>
  kN P (callN (.func (.func 31) #[] #[]) #[v57_3]) w fun v58_6 w =>
  pV P (binV .add 9 (.tmp 55) (.tmp 58) v55_3 v58_6) fun v59_6 =>
  pV P (binV .add 9 (.tmp 59) (.const (.string ⟨#[32]⟩)) v59_6 (.string ⟨#[32]⟩)) fun v60_6 =>
  kN P (callN (.func (.func 34) #[] #[]) #[v62_6]) w fun v63_6 w =>
  pV P (binV .add 9 (.tmp 60) (.tmp 63) v60_6 v63_6) fun v64_6 =>
  pV P (binV .add 9 (.tmp 64) (.const (.string ⟨#[10]⟩)) v64_6 (.string ⟨#[10]⟩)) fun v65_6 =>
  K v65_6 w) ∧
  (kV P (Instr.loadAt 3 v56) w fun v57_4 w =>
  kN P (callN (.func (.func 31) #[] #[]) #[v52]) w fun v53_4 w =>
  pV P (binV .add 9 (.tmp 50) (.tmp 53) v50 v53_4) fun v54_4 =>
  pV P (binV .add 9 (.tmp 54) (.const (.string ⟨#[32]⟩)) v54_4 (.string ⟨#[32]⟩)) fun v55_4 =>
  kN P (callN (.func (.func 31) #[] #[]) #[v57_4]) w fun v58_7 w =>
  pV P (binV .add 9 (.tmp 55) (.tmp 58) v55_4 v58_7) fun v59_7 =>
  pV P (binV .add 9 (.tmp 59) (.const (.string ⟨#[32]⟩)) v59_7 (.string ⟨#[32]⟩)) fun v60_7 =>
  kN P (callN (.func (.func 34) #[] #[]) #[v62_6]) w fun v63_7 w =>
  pV P (binV .add 9 (.tmp 60) (.tmp 63) v60_7 v63_7) fun v64_7 =>
  pV P (binV .add 9 (.tmp 64) (.const (.string ⟨#[10]⟩)) v64_7 (.string ⟨#[10]⟩)) fun v65_7 =>
  K v65_7 w))) ∧
  (kV P (Instr.loadAt 3 v56) w fun v57_5 w =>
  (kV P (Instr.loadAt 3 v51) w fun v52_1 w =>
  (kN P (callN (.func (.func 31) #[] #[]) #[v52_1]) w fun v53_5 w =>
  pV P (binV .add 9 (.tmp 50) (.tmp 53) v50 v53_5) fun v54_5 =>
  pV P (binV .add 9 (.tmp 54) (.const (.string ⟨#[32]⟩)) v54_5 (.string ⟨#[32]⟩)) fun v55_5 =>
  (kN P (callN (.func (.func 31) #[] #[]) #[v57_5]) w fun v58_8 w =>
  pV P (binV .add 9 (.tmp 55) (.tmp 58) v55_5 v58_8) fun v59_8 =>
  pV P (binV .add 9 (.tmp 59) (.const (.string ⟨#[32]⟩)) v59_8 (.string ⟨#[32]⟩)) fun v60_8 =>
  kV P (Instr.loadAt 38 v61) w fun v62_7 w =>
  kN P (callN (.func (.func 34) #[] #[]) #[v62_7]) w fun v63_8 w =>
  pV P (binV .add 9 (.tmp 60) (.tmp 63) v60_8 v63_8) fun v64_8 =>
  pV P (binV .add 9 (.tmp 64) (.const (.string ⟨#[10]⟩)) v64_8 (.string ⟨#[10]⟩)) fun v65_8 =>
  K v65_8 w) ∧
  (kV P (Instr.loadAt 38 v61) w fun v62_8 w =>
  kN P (callN (.func (.func 31) #[] #[]) #[v57_5]) w fun v58_9 w =>
  pV P (binV .add 9 (.tmp 55) (.tmp 58) v55_5 v58_9) fun v59_9 =>
  pV P (binV .add 9 (.tmp 59) (.const (.string ⟨#[32]⟩)) v59_9 (.string ⟨#[32]⟩)) fun v60_9 =>
  kN P (callN (.func (.func 34) #[] #[]) #[v62_8]) w fun v63_9 w =>
  pV P (binV .add 9 (.tmp 60) (.tmp 63) v60_9 v63_9) fun v64_9 =>
  pV P (binV .add 9 (.tmp 64) (.const (.string ⟨#[10]⟩)) v64_9 (.string ⟨#[10]⟩)) fun v65_9 =>
  K v65_9 w)) ∧
  (kV P (Instr.loadAt 38 v61) w fun v62_9 w =>
  kN P (callN (.func (.func 31) #[] #[]) #[v52_1]) w fun v53_6 w =>
  pV P (binV .add 9 (.tmp 50) (.tmp 53) v50 v53_6) fun v54_6 =>
  pV P (binV .add 9 (.tmp 54) (.const (.string ⟨#[32]⟩)) v54_6 (.string ⟨#[32]⟩)) fun v55_6 =>
  kN P (callN (.func (.func 31) #[] #[]) #[v57_5]) w fun v58_10 w =>
  pV P (binV .add 9 (.tmp 55) (.tmp 58) v55_6 v58_10) fun v59_10 =>
  pV P (binV .add 9 (.tmp 59) (.const (.string ⟨#[32]⟩)) v59_10 (.string ⟨#[32]⟩)) fun v60_10 =>
  kN P (callN (.func (.func 34) #[] #[]) #[v62_9]) w fun v63_10 w =>
  pV P (binV .add 9 (.tmp 60) (.tmp 63) v60_10 v63_10) fun v64_10 =>
  pV P (binV .add 9 (.tmp 64) (.const (.string ⟨#[10]⟩)) v64_10 (.string ⟨#[10]⟩)) fun v65_10 =>
  K v65_10 w)) ∧
  (kV P (Instr.loadAt 38 v61) w fun v62_10 w =>
  kV P (Instr.loadAt 3 v51) w fun v52_2 w =>
  kN P (callN (.func (.func 31) #[] #[]) #[v52_2]) w fun v53_7 w =>
  pV P (binV .add 9 (.tmp 50) (.tmp 53) v50 v53_7) fun v54_7 =>
  pV P (binV .add 9 (.tmp 54) (.const (.string ⟨#[32]⟩)) v54_7 (.string ⟨#[32]⟩)) fun v55_7 =>
  kN P (callN (.func (.func 31) #[] #[]) #[v57_5]) w fun v58_11 w =>
  pV P (binV .add 9 (.tmp 55) (.tmp 58) v55_7 v58_11) fun v59_11 =>
  pV P (binV .add 9 (.tmp 59) (.const (.string ⟨#[32]⟩)) v59_11 (.string ⟨#[32]⟩)) fun v60_11 =>
  kN P (callN (.func (.func 34) #[] #[]) #[v62_10]) w fun v63_11 w =>
  pV P (binV .add 9 (.tmp 60) (.tmp 63) v60_11 v63_11) fun v64_11 =>
  pV P (binV .add 9 (.tmp 64) (.const (.string ⟨#[10]⟩)) v64_11 (.string ⟨#[10]⟩)) fun v65_11 =>
  K v65_11 w)) ∧
  (kV P (Instr.loadAt 38 v61) w fun v62_11 w =>
  (kV P (Instr.loadAt 3 v51) w fun v52_3 w =>
  (kN P (callN (.func (.func 31) #[] #[]) #[v52_3]) w fun v53_8 w =>
  pV P (binV .add 9 (.tmp 50) (.tmp 53) v50 v53_8) fun v54_8 =>
  pV P (binV .add 9 (.tmp 54) (.const (.string ⟨#[32]⟩)) v54_8 (.string ⟨#[32]⟩)) fun v55_8 =>
  kV P (Instr.loadAt 3 v56) w fun v57_6 w =>
  kN P (callN (.func (.func 31) #[] #[]) #[v57_6]) w fun v58_12 w =>
  pV P (binV .add 9 (.tmp 55) (.tmp 58) v55_8 v58_12) fun v59_12 =>
  pV P (binV .add 9 (.tmp 59) (.const (.string ⟨#[32]⟩)) v59_12 (.string ⟨#[32]⟩)) fun v60_12 =>
  kN P (callN (.func (.func 34) #[] #[]) #[v62_11]) w fun v63_12 w =>
  pV P (binV .add 9 (.tmp 60) (.tmp 63) v60_12 v63_12) fun v64_12 =>
  pV P (binV .add 9 (.tmp 64) (.const (.string ⟨#[10]⟩)) v64_12 (.string ⟨#[10]⟩)) fun v65_12 =>
  K v65_12 w) ∧
  (kV P (Instr.loadAt 3 v56) w fun v57_7 w =>
  kN P (callN (.func (.func 31) #[] #[]) #[v52_3]) w fun v53_9 w =>
  pV P (binV .add 9 (.tmp 50) (.tmp 53) v50 v53_9) fun v54_9 =>
  pV P (binV .add 9 (.tmp 54) (.const (.string ⟨#[32]⟩)) v54_9 (.string ⟨#[32]⟩)) fun v55_9 =>
  kN P (callN (.func (.func 31) #[] #[]) #[v57_7]) w fun v58_13 w =>
  pV P (binV .add 9 (.tmp 55) (.tmp 58) v55_9 v58_13) fun v59_13 =>
  pV P (binV .add 9 (.tmp 59) (.const (.string ⟨#[32]⟩)) v59_13 (.string ⟨#[32]⟩)) fun v60_13 =>
  kN P (callN (.func (.func 34) #[] #[]) #[v62_11]) w fun v63_13 w =>
  pV P (binV .add 9 (.tmp 60) (.tmp 63) v60_13 v63_13) fun v64_13 =>
  pV P (binV .add 9 (.tmp 64) (.const (.string ⟨#[10]⟩)) v64_13 (.string ⟨#[10]⟩)) fun v65_13 =>
  K v65_13 w)) ∧
  (kV P (Instr.loadAt 3 v56) w fun v57_8 w =>
  kV P (Instr.loadAt 3 v51) w fun v52_4 w =>
  kN P (callN (.func (.func 31) #[] #[]) #[v52_4]) w fun v53_10 w =>
  pV P (binV .add 9 (.tmp 50) (.tmp 53) v50 v53_10) fun v54_10 =>
  pV P (binV .add 9 (.tmp 54) (.const (.string ⟨#[32]⟩)) v54_10 (.string ⟨#[32]⟩)) fun v55_10 =>
  kN P (callN (.func (.func 31) #[] #[]) #[v57_8]) w fun v58_14 w =>
  pV P (binV .add 9 (.tmp 55) (.tmp 58) v55_10 v58_14) fun v59_14 =>
  pV P (binV .add 9 (.tmp 59) (.const (.string ⟨#[32]⟩)) v59_14 (.string ⟨#[32]⟩)) fun v60_14 =>
  kN P (callN (.func (.func 34) #[] #[]) #[v62_11]) w fun v63_14 w =>
  pV P (binV .add 9 (.tmp 60) (.tmp 63) v60_14 v63_14) fun v64_14 =>
  pV P (binV .add 9 (.tmp 64) (.const (.string ⟨#[10]⟩)) v64_14 (.string ⟨#[10]⟩)) fun v65_14 =>
  K v65_14 w))) w)
  (kV P (binV .eql 3 (.tmp 17) (.const (.int .i64 2)) v17 (.int .i64 2)) w fun v67 w =>
  condK v67
  (kV P (binV .add 9 (.tmp 68) (.const (.string ⟨#[101, 110, 100, 32]⟩)) (s0.getD 0 undef) (.string ⟨#[101, 110, 100, 32]⟩)) w fun v69 w =>
  kV P (Instr.fieldAt 40 v1 4) w fun v70 w =>
  kV P (Instr.loadAt 3 v70) w fun v71 w =>
  kN P (callN (.func (.func 31) #[] #[]) #[v71]) w fun v72 w =>
  kV P (binV .add 9 (.tmp 69) (.tmp 72) v69 v72) w fun v73 w =>
  kV P (binV .add 9 (.tmp 73) (.const (.string ⟨#[10]⟩)) v73 (.string ⟨#[10]⟩)) w fun v74 w =>
  K v74 w)
  (kV P (binV .eql 3 (.tmp 17) (.const (.int .i64 3)) v17 (.int .i64 3)) w fun v76 w =>
  condK v76
  (kV P (binV .add 9 (.tmp 77) (.const (.string ⟨#[107, 105, 108, 108, 32]⟩)) (s0.getD 0 undef) (.string ⟨#[107, 105, 108, 108, 32]⟩)) w fun v78 w =>
  kV P (Instr.fieldAt 40 v1 4) w fun v79 w =>
  kV P (Instr.loadAt 3 v79) w fun v80 w =>
  kN P (callN (.func (.func 31) #[] #[]) #[v80]) w fun v81 w =>
  kV P (binV .add 9 (.tmp 78) (.tmp 81) v78 v81) w fun v82 w =>
  kV P (binV .add 9 (.tmp 82) (.const (.string ⟨#[10]⟩)) v82 (.string ⟨#[10]⟩)) w fun v83 w =>
  K v83 w)
  (kV P (binV .add 9 (.tmp 84) (.const (.string ⟨#[63, 10]⟩)) (s0.getD 0 undef) (.string ⟨#[63, 10]⟩)) w fun v85 w =>
  K v85 w))))
theorem F14_eq (P : Program) (t0 : Value) (w : World) (K : Value → World → Prop) : funE P ⟨[(1, 999), (10, 999)], [], [(2, [3]), (8, [4])]⟩ Try.f14 [t0] w K = F14 P t0 w K := by kernel_rfl
theorem F14_ok (t0 : Value) (w : World) (K : Value → World → Prop) (h : F14 Try.prog t0 w K) : callsK Try.prog 14 #[t0] w K := calls_of_eq mixedC Try.func14 (F14_eq _ t0 w K) h

/-- mintmark/script.Text -/
def F15 (P : Program) (t0 : Value) (w : World) (K : Value → World → Prop) : Prop :=
  kV P (Instr.box 35 t0) w fun v1 w =>
  joinL (fun J0 =>
  drewK (fun w =>
  pV P (Instr.fieldAt 35 v1 0) fun v4 =>
  pV P (Instr.fieldAt 35 v1 2) fun v8 =>
  (kV P (Instr.loadAt 3 v4) w fun v5 w =>
  (kN P (callN (.func (.func 35) #[] #[]) #[v5]) w fun v6 w =>
  pV P (binV .add 9 (.const (.string ⟨#[112]⟩)) (.tmp 6) (.string ⟨#[112]⟩) v6) fun v7 =>
  kV P (Instr.loadAt 28 v8) w fun v9 w =>
  kN P (callN (.func (.func 36) #[] #[]) #[v9, (.int .u64 16)]) w fun v10 w =>
  kV P (Instr.buildSlice 69 2 #[(0, v7), (1, v10)]) w fun v11 w =>
  J0 [v11] w) ∧
  (kV P (Instr.loadAt 28 v8) w fun v9_1 w =>
  kN P (callN (.func (.func 35) #[] #[]) #[v5]) w fun v6_1 w =>
  pV P (binV .add 9 (.const (.string ⟨#[112]⟩)) (.tmp 6) (.string ⟨#[112]⟩) v6_1) fun v7_1 =>
  kN P (callN (.func (.func 36) #[] #[]) #[v9_1, (.int .u64 16)]) w fun v10_1 w =>
  kV P (Instr.buildSlice 69 2 #[(0, v7_1), (1, v10_1)]) w fun v11_1 w =>
  J0 [v11_1] w)) ∧
  (kV P (Instr.loadAt 28 v8) w fun v9_2 w =>
  kV P (Instr.loadAt 3 v4) w fun v5_1 w =>
  kN P (callN (.func (.func 35) #[] #[]) #[v5_1]) w fun v6_2 w =>
  pV P (binV .add 9 (.const (.string ⟨#[112]⟩)) (.tmp 6) (.string ⟨#[112]⟩) v6_2) fun v7_2 =>
  kN P (callN (.func (.func 36) #[] #[]) #[v9_2, (.int .u64 16)]) w fun v10_2 w =>
  kV P (Instr.buildSlice 69 2 #[(0, v7_2), (1, v10_2)]) w fun v11_2 w =>
  J0 [v11_2] w)) w) fun s0 w => ∀ _ : Nat → Value,
  joinL (fun J2 =>
  kV P (Instr.fieldAt 35 v1 1) w fun v12 w =>
  kV P (Instr.loadAt 3 v12) w fun v13 w =>
  kV P (binV .eql 3 (.tmp 13) (.const (.int .i64 0)) v13 (.int .i64 0)) w fun v18 w =>
  condK v18
  (drewK (fun w =>
  pV P (Instr.fieldAt 35 v1 3) fun v20 =>
  pV P (Instr.fieldAt 35 v1 5) fun v23 =>
  (kV P (Instr.loadAt 3 v20) w fun v21 w =>
  (kN P (callN (.func (.func 37) #[] #[]) #[v21]) w fun v22 w =>
  kV P (Instr.loadAt 33 v23) w fun v24 w =>
  kN P (callN (.func (.func 38) #[] #[]) #[v24]) w fun v25 w =>
  kV P (Instr.buildSlice 69 2 #[(0, v22), (1, v25)]) w fun v26 w =>
  kV P (Builtin.append_ #[69, 69] 69 #[(s0.getD 0 undef), v26]) w fun v27 w =>
  J2 [v27] w) ∧
  (kV P (Instr.loadAt 33 v23) w fun v24_1 w =>
  kN P (callN (.func (.func 37) #[] #[]) #[v21]) w fun v22_1 w =>
  kN P (callN (.func (.func 38) #[] #[]) #[v24_1]) w fun v25_1 w =>
  kV P (Instr.buildSlice 69 2 #[(0, v22_1), (1, v25_1)]) w fun v26_1 w =>
  kV P (Builtin.append_ #[69, 69] 69 #[(s0.getD 0 undef), v26_1]) w fun v27_1 w =>
  J2 [v27_1] w)) ∧
  (kV P (Instr.loadAt 33 v23) w fun v24_2 w =>
  kV P (Instr.loadAt 3 v20) w fun v21_1 w =>
  kN P (callN (.func (.func 37) #[] #[]) #[v21_1]) w fun v22_2 w =>
  kN P (callN (.func (.func 38) #[] #[]) #[v24_2]) w fun v25_2 w =>
  kV P (Instr.buildSlice 69 2 #[(0, v22_2), (1, v25_2)]) w fun v26_2 w =>
  kV P (Builtin.append_ #[69, 69] 69 #[(s0.getD 0 undef), v26_2]) w fun v27_2 w =>
  J2 [v27_2] w)) w)
  (kV P (binV .eql 3 (.tmp 13) (.const (.int .i64 1)) v13 (.int .i64 1)) w fun v29 w =>
  condK v29
  (drewK (fun w =>
  pV P (Instr.fieldAt 35 v1 3) fun v31 =>
  pV P (Instr.fieldAt 35 v1 4) fun v34 =>
  pV P (Instr.fieldAt 35 v1 5) fun v37 =>
  (kV P (Instr.loadAt 3 v31) w fun v32 w =>
  (kN P (callN (.func (.func 35) #[] #[]) #[v32]) w fun v33 w =>
  (kV P (Instr.loadAt 3 v34) w fun v35 w =>
  (kN P (callN (.func (.func 35) #[] #[]) #[v35]) w fun v36 w =>
  kV P (Instr.loadAt 33 v37) w fun v38 w =>
  kN P (callN (.func (.func 38) #[] #[]) #[v38]) w fun v39 w =>
  kV P (Instr.buildSlice 69 4 #[(0, (.string ⟨#[99, 97, 108, 108]⟩)), (1, v33), (2, v36), (3, v39)]) w fun v40 w =>
  kV P (Builtin.append_ #[69, 69] 69 #[(s0.getD 0 undef), v40]) w fun v41 w =>
  J2 [v41] w) ∧
  (kV P (Instr.loadAt 33 v37) w fun v38_1 w =>
  kN P (callN (.func (.func 35) #[] #[]) #[v35]) w fun v36_1 w =>
  kN P (callN (.func (.func 38) #[] #[]) #[v38_1]) w fun v39_1 w =>
  kV P (Instr.buildSlice 69 4 #[(0, (.string ⟨#[99, 97, 108, 108]⟩)), (1, v33), (2, v36_1), (3, v39_1)]) w fun v40_1 w =>
  kV P (Builtin.append_ #[69, 69] 69 #[(s0.getD 0 undef), v40_1]) w fun v41_1 w =>
  J2 [v41_1] w)) ∧
  (kV P (Instr.loadAt 33 v37) w fun v38_2 w =>
  kV P (Instr.loadAt 3 v34) w fun v35_1 w =>
  kN P (callN (.func (.func 35) #[] #[]) #[v35_1]) w fun v36_2 w =>
  kN P (callN (.func (.func 38) #[] #[]) #[v38_2]) w fun v39_2 w =>
  kV P (Instr.buildSlice 69 4 #[(0, (.string ⟨#[99, 97, 108, 108]⟩)), (1, v33), (2, v36_2), (3, v39_2)]) w fun v40_2 w =>
  kV P (Builtin.append_ #[69, 69] 69 #[(s0.getD 0 undef), v40_2]) w fun v41_2 w =>
  J2 [v41_2] w)) ∧
  (kV P (Instr.loadAt 3 v34) w fun v35_2 w =>
  (kN P (callN (.func (.func 35) #[] #[]) #[v32]) w fun v33_1 w =>
  (kN P (callN (.func (.func 35) #[] #[]) #[v35_2]) w fun v36_3 w =>
  kV P (Instr.loadAt 33 v37) w fun v38_3 w =>
  kN P (callN (.func (.func 38) #[] #[]) #[v38_3]) w fun v39_3 w =>
  kV P (Instr.buildSlice 69 4 #[(0, (.string ⟨#[99, 97, 108, 108]⟩)), (1, v33_1), (2, v36_3), (3, v39_3)]) w fun v40_3 w =>
  kV P (Builtin.append_ #[69, 69] 69 #[(s0.getD 0 undef), v40_3]) w fun v41_3 w =>
  J2 [v41_3] w) ∧
  (kV P (Instr.loadAt 33 v37) w fun v38_4 w =>
  kN P (callN (.func (.func 35) #[] #[]) #[v35_2]) w fun v36_4 w =>
  kN P (callN (.func (.func 38) #[] #[]) #[v38_4]) w fun v39_4 w =>
  kV P (Instr.buildSlice 69 4 #[(0, (.string ⟨#[99, 97, 108, 108]⟩)), (1, v33_1), (2, v36_4), (3, v39_4)]) w fun v40_4 w =>
  kV P (Builtin.append_ #[69, 69] 69 #[(s0.getD 0 undef), v40_4]) w fun v41_4 w =>
  J2 [v41_4] w)) ∧
  (kV P (Instr.loadAt 33 v37) w fun v38_5 w =>
  kN P (callN (.func (.func 35) #[] #[]) #[v32]) w fun v33_2 w =>
  kN P (callN (.func (.func 35) #[] #[]) #[v35_2]) w fun v36_5 w =>
  kN P (callN (.func (.func 38) #[] #[]) #[v38_5]) w fun v39_5 w =>
  kV P (Instr.buildSlice 69 4 #[(0, (.string ⟨#[99, 97, 108, 108]⟩)), (1, v33_2), (2, v36_5), (3, v39_5)]) w fun v40_5 w =>
  kV P (Builtin.append_ #[69, 69] 69 #[(s0.getD 0 undef), v40_5]) w fun v41_5 w =>
  J2 [v41_5] w)) ∧
  (kV P (Instr.loadAt 33 v37) w fun v38_6 w =>
  (kN P (callN (.func (.func 35) #[] #[]) #[v32]) w fun v33_3 w =>
  kV P (Instr.loadAt 3 v34) w fun v35_3 w =>
  kN P (callN (.func (.func 35) #[] #[]) #[v35_3]) w fun v36_6 w =>
  kN P (callN (.func (.func 38) #[] #[]) #[v38_6]) w fun v39_6 w =>
  kV P (Instr.buildSlice 69 4 #[(0, (.string ⟨#[99, 97, 108, 108]⟩)), (1, v33_3), (2, v36_6), (3, v39_6)]) w fun v40_6 w =>
  kV P (Builtin.append_ #[69, 69] 69 #[(s0.getD 0 undef), v40_6]) w fun v41_6 w =>
  J2 [v41_6] w) ∧
  (kV P (Instr.loadAt 3 v34) w fun v35_4 w =>
  kN P (callN (.func (.func 35) #[] #[]) #[v32]) w fun v33_4 w =>
  kN P (callN (.func (.func 35) #[] #[]) #[v35_4]) w fun v36_7 w =>
  kN P (callN (.func (.func 38) #[] #[]) #[v38_6]) w fun v39_7 w =>
  kV P (Instr.buildSlice 69 4 #[(0, (.string ⟨#[99, 97, 108, 108]⟩)), (1, v33_4), (2, v36_7), (3, v39_7)]) w fun v40_7 w =>
  kV P (Builtin.append_ #[69, 69] 69 #[(s0.getD 0 undef), v40_7]) w fun v41_7 w =>
  J2 [v41_7] w))) ∧
  (kV P (Instr.loadAt 3 v34) w fun v35_5 w =>
  (kV P (Instr.loadAt 3 v31) w fun v32_1 w =>
  (kN P (callN (.func (.func 35) #[] #[]) #[v32_1]) w fun v33_5 w =>
  (kN P (callN (.func (.func 35) #[] #[]) #[v35_5]) w fun v36_8 w =>
  kV P (Instr.loadAt 33 v37) w fun v38_7 w =>
  kN P (callN (.func (.func 38) #[] #[]) #[v38_7]) w fun v39_8 w =>
  kV P (Instr.buildSlice 69 4 #[(0, (.string ⟨#[99, 97, 108, 108]⟩)), (1, v33_5), (2, v36_8), (3, v39_8)]) w fun v40_8 w =>
  kV P (Builtin.append_ #[69, 69] 69 #[(s0.getD 0 undef), v40_8]) w fun v41_8 w =>
  J2 [v41_8] w) ∧
  (kV P (Instr.loadAt 33 v37) w fun v38_8 w =>
  kN P (callN (.func (.func 35) #[] #[]) #[v35_5]) w fun v36_9 w =>
  kN P (callN (.func (.func 38) #[] #[]) #[v38_8]) w fun v39_9 w =>
  kV P (Instr.buildSlice 69 4 #[(0, (.string ⟨#[99, 97, 108, 108]⟩)), (1, v33_5), (2, v36_9), (3, v39_9)]) w fun v40_9 w =>
  kV P (Builtin.append_ #[69, 69] 69 #[(s0.getD 0 undef), v40_9]) w fun v41_9 w =>
  J2 [v41_9] w)) ∧
  (kV P (Instr.loadAt 33 v37) w fun v38_9 w =>
  kN P (callN (.func (.func 35) #[] #[]) #[v32_1]) w fun v33_6 w =>
  kN P (callN (.func (.func 35) #[] #[]) #[v35_5]) w fun v36_10 w =>
  kN P (callN (.func (.func 38) #[] #[]) #[v38_9]) w fun v39_10 w =>
  kV P (Instr.buildSlice 69 4 #[(0, (.string ⟨#[99, 97, 108, 108]⟩)), (1, v33_6), (2, v36_10), (3, v39_10)]) w fun v40_10 w =>
  kV P (Builtin.append_ #[69, 69] 69 #[(s0.getD 0 undef), v40_10]) w fun v41_10 w =>
  J2 [v41_10] w)) ∧
  (kV P (Instr.loadAt 33 v37) w fun v38_10 w =>
  kV P (Instr.loadAt 3 v31) w fun v32_2 w =>
  kN P (callN (.func (.func 35) #[] #[]) #[v32_2]) w fun v33_7 w =>
  kN P (callN (.func (.func 35) #[] #[]) #[v35_5]) w fun v36_11 w =>
  kN P (callN (.func (.func 38) #[] #[]) #[v38_10]) w fun v39_11 w =>
  kV P (Instr.buildSlice 69 4 #[(0, (.string ⟨#[99, 97, 108, 108]⟩)), (1, v33_7), (2, v36_11), (3, v39_11)]) w fun v40_11 w =>
  kV P (Builtin.append_ #[69, 69] 69 #[(s0.getD 0 undef), v40_11]) w fun v41_11 w =>
  J2 [v41_11] w)) ∧
  (kV P (Instr.loadAt 33 v37) w fun v38_11 w =>
  (kV P (Instr.loadAt 3 v31) w fun v32_3 w =>
  (kN P (callN (.func (.func 35) #[] #[]) #[v32_3]) w fun v33_8 w =>
  kV P (Instr.loadAt 3 v34) w fun v35_6 w =>
  kN P (callN (.func (.func 35) #[] #[]) #[v35_6]) w fun v36_12 w =>
  kN P (callN (.func (.func 38) #[] #[]) #[v38_11]) w fun v39_12 w =>
  kV P (Instr.buildSlice 69 4 #[(0, (.string ⟨#[99, 97, 108, 108]⟩)), (1, v33_8), (2, v36_12), (3, v39_12)]) w fun v40_12 w =>
  kV P (Builtin.append_ #[69, 69] 69 #[(s0.getD 0 undef), v40_12]) w fun v41_12 w =>
  J2 [v41_12] w) ∧
  (kV P (Instr.loadAt 3 v34) w fun v35_7 w =>
  kN P (callN (.func (.func 35) #[] #[]) #[v32_3]) w fun v33_9 w =>
  kN P (callN (.func (.func 35) #[] #[]) #[v35_7]) w fun v36_13 w =>
  kN P (callN (.func (.func 38) #[] #[]) #[v38_11]) w fun v39_13 w =>
  kV P (Instr.buildSlice 69 4 #[(0, (.string ⟨#[99, 97, 108, 108]⟩)), (1, v33_9), (2, v36_13), (3, v39_13)]) w fun v40_13 w =>
  kV P (Builtin.append_ #[69, 69] 69 #[(s0.getD 0 undef), v40_13]) w fun v41_13 w =>
  J2 [v41_13] w)) ∧
  (kV P (Instr.loadAt 3 v34) w fun v35_8 w =>
  kV P (Instr.loadAt 3 v31) w fun v32_4 w =>
  kN P (callN (.func (.func 35) #[] #[]) #[v32_4]) w fun v33_10 w =>
  kN P (callN (.func (.func 35) #[] #[]) #[v35_8]) w fun v36_14 w =>
  kN P (callN (.func (.func 38) #[] #[]) #[v38_11]) w fun v39_14 w =>
  kV P (Instr.buildSlice 69 4 #[(0, (.string ⟨#[99, 97, 108, 108]⟩)), (1, v33_10), (2, v36_14), (3, v39_14)]) w fun v40_14 w =>
  kV P (Builtin.append_ #[69, 69] 69 #[(s0.getD 0 undef), v40_14]) w fun v41_14 w =>
  J2 [v41_14] w))) w)
  (kV P (binV .eql 3 (.tmp 13) (.const (.int .i64 2)) v13 (.int .i64 2)) w fun v43 w =>
  condK v43
  (kV P (Instr.fieldAt 35 v1 4) w fun v45 w =>
  kV P (Instr.loadAt 3 v45) w fun v46 w =>
  kN P (callN (.func (.func 35) #[] #[]) #[v46]) w fun v47 w =>
  kV P (Instr.buildSlice 69 2 #[(0, (.string ⟨#[101, 110, 100]⟩)), (1, v47)]) w fun v48 w =>
  kV P (Builtin.append_ #[69, 69] 69 #[(s0.getD 0 undef), v48]) w fun v49 w =>
  J2 [v49] w)
  (kV P (binV .eql 3 (.tmp 13) (.const (.int .i64 3)) v13 (.int .i64 3)) w fun v51 w =>
  condK v51
  (kV P (Instr.fieldAt 35 v1 4) w fun v53 w =>
  kV P (Instr.loadAt 3 v53) w fun v54 w =>
  kN P (callN (.func (.func 35) #[] #[]) #[v54]) w fun v55 w =>
  kV P (Instr.buildSlice 69 2 #[(0, (.string ⟨#[107, 105, 108, 108]⟩)), (1, v55)]) w fun v56 w =>
  kV P (Builtin.append_ #[69, 69] 69 #[(s0.getD 0 undef), v56]) w fun v57 w =>
  J2 [v57] w)
  (kV P (Instr.buildSlice 69 1 #[(0, (.string ⟨#[63]⟩))]) w fun v15 w =>
  kV P (Builtin.append_ #[69, 69] 69 #[(s0.getD 0 undef), v15]) w fun v16 w =>
  J2 [v16] w))))) fun s2 w => ∀ _ : Nat → Value,
  kN P (callN (.func (.func 26) #[] #[]) #[(s2.getD 0 undef), (.string ⟨#[32]⟩)]) w fun v59 w =>
  kV P (binV .add 9 (.tmp 59) (.const (.string ⟨#[10]⟩)) v59 (.string ⟨#[10]⟩)) w fun v60 w =>
  K v60 w
theorem F15_eq (P : Program) (t0 : Value) (w : World) (K : Value → World → Prop) : funE P ⟨[(1, 999), (7, 999), (5, 999)], [], [(2, [3]), (12, [3])]⟩ Try.f15 [t0] w K = F15 P t0 w K := by kernel_rfl
theorem F15_ok (t0 : Value) (w : World) (K : Value → World → Prop) (h : F15 Try.prog t0 w K) : callsK Try.prog 15 #[t0] w K := calls_of_eq mixedC Try.func15 (F15_eq _ t0 w K) h

/-- mintmark/script.Trace -/
def F16 (P : Program) (t0 t1 : Value) (w : World) (K : Value → World → Prop) : Prop :=
  kV P (Instr.alloc 62 true (.tuple #[])) w fun v5 w =>
  kV P (Builtin.len_ #[36] 3 #[t0]) w fun v9 w =>
  loopT (fun R0 s0 w => ∀ _ : Nat → Value,
  kV P (binV .lss 3 (.tmp 10) (.tmp 9) (s0.getD 0 undef) v9) w fun v11 w =>
  condK v11
  (joinL (fun J2 =>
  kV P (Instr.indexAt 36 t0 (s0.getD 0 undef)) w fun v12 w =>
  kV P (Instr.loadAt 35 v12) w fun v13 w =>
  kV P (Instr.alloc 35 true (.tuple #[])) w fun v7 w =>
  kU P (Instr.storeAt 35 v7 v13) w fun _ w =>
  kV P (Instr.fieldAt 35 v7 0) w fun v14 w =>
  kV P (Instr.loadAt 3 v14) w fun v15 w =>
  kV P (binV .eql 3 (.tmp 15) (.tmp 16) v15 t1) w fun v17 w =>
  condK v17
  (kV P (Instr.loadAt 35 v7) w fun v18 w =>
  kN P (callN (.func (.func 15) #[] #[]) #[v18]) w fun v19 w =>
  kN P (callN (.func (.func 25) #[] #[]) #[v5, v19]) w fun v20 w =>
  J2 [] w)
  (J2 [] w)) fun s2 w => ∀ _ : Nat → Value,
  kV P (binV .add 3 (.tmp 10) (.const (.int .i64 1)) (s0.getD 0 undef) (.int .i64 1)) w fun v21 w =>
  R0 [v21] w)
  (kN P (callN (.func (.func 29) #[] #[]) #[v5]) w fun v22 w =>
  K v22 w)) [(.int .i64 0)] w
theorem F16_eq (P : Program) (t0 t1 : Value) (w : World) (K : Value → World → Prop) : funE P ⟨[], [(3, [10])], [(7, [])]⟩ Try.f16 [t0, t1] w K = F16 P t0 t1 w K := by kernel_rfl
theorem F16_ok (t0 t1 : Value) (w : World) (K : Value → World → Prop) (h : F16 Try.prog t0 t1 w K) : callsK Try.prog 16 #[t0, t1] w K := calls_of_eq mixedC Try.func16 (F16_eq _ t0 t1 w K) h

/-- mintmark/mintmarklaw29.one -/
def F17 (P : Program) (w : World) (K : Value → World → Prop) : Prop :=
  kV P (Instr.buildSlice 60 4 #[(0, (.int .u8 1)), (1, (.int .u8 0)), (2, (.int .u8 2)), (3, (.int .u8 5))]) w fun v4 w =>
  kN P (callN (.func (.func 39) #[] #[]) #[v4]) w fun v5 w =>
  kV P (binV .eql 81 (.tmp 6) (.const .nilFunc) v5 .nilFunc) w fun v7 w =>
  condK v7
  (K (.bool false) w)
  (kV P (Instr.alloc 3 true (.tuple #[])) w fun v2 w =>
  kV P (Instr.alloc 4 true (.tuple #[])) w fun v3 w =>
  kU P (Instr.storeAt 3 v2 (.int .i64 0)) w fun _ w =>
  kU P (Instr.storeAt 4 v3 (.bool true)) w fun _ w =>
  kN P (callN v5 #[(.func (.func 40) #[] #[v2, v3])]) w fun v10 w =>
  kV P (Instr.loadAt 3 v2) w fun v11 w =>
  kV P (binV .eql 3 (.tmp 11) (.const (.int .i64 1)) v11 (.int .i64 1)) w fun v12 w =>
  joinK (fun J0 : Value → World → Prop => gdK (yb v12) true (fun k => kV P (Instr.loadAt 4 v3) w k) w fun v14 w =>
  kN P (pickN v12 v14 (.bool false)) w fun v15_1 w =>
  J0 v15_1 w) fun v15 w =>
  K v15 w)
theorem F17_eq (P : Program) (w : World) (K : Value → World → Prop) : funE P ⟨[], [], []⟩ Try.f17 [] w K = F17 P  w K := by kernel_rfl
theorem F17_ok (w : World) (K : Value → World → Prop) (h : F17 Try.prog  w K) : callsK Try.prog 17 #[] w K := calls_of_eq mixedC Try.func17 (F17_eq _  w K) h

/-- mintmark/mintmarkref29.whole -/
def F31 (P : Program) (t0 : Value) (w : World) (K : Value → World → Prop) : Prop :=
  kV P (binV .lss 3 (.tmp 3) (.const (.int .i64 0)) t0 (.int .i64 0)) w fun v4 w =>
  condK v4
  (kV P (Op.unary .neg t0) w fun v6 w =>
  kV P (convert 3 28 v6) w fun v7 w =>
  kN P (callN (.func (.func 32) #[] #[]) #[v7, (.int .u64 10)]) w fun v8 w =>
  kV P (binV .add 9 (.const (.string ⟨#[45]⟩)) (.tmp 8) (.string ⟨#[45]⟩) v8) w fun v9 w =>
  K v9 w)
  (kV P (convert 3 28 t0) w fun v11 w =>
  kN P (callN (.func (.func 32) #[] #[]) #[v11, (.int .u64 10)]) w fun v12 w =>
  K v12 w)
theorem F31_eq (P : Program) (t0 : Value) (w : World) (K : Value → World → Prop) : funE P ⟨[], [], []⟩ Try.f31 [t0] w K = F31 P t0 w K := by kernel_rfl
theorem F31_ok (t0 : Value) (w : World) (K : Value → World → Prop) (h : F31 Try.prog t0 w K) : callsK Try.prog 31 #[t0] w K := calls_of_eq mixedC Try.func31 (F31_eq _ t0 w K) h

/-- mintmark/mintmarkref29.digits -/
def F32 (P : Program) (t0 t1 : Value) (w : World) (K : Value → World → Prop) : Prop :=
  drewK (fun w =>
  sV P (binV .rem 28 (.tmp 6) (.tmp 7) t0 t1) w fun v8 =>
  sV P (binV .rem 28 (.tmp 9) (.tmp 10) t0 t1) w fun v11 =>
  sV P (binV .add 28 (.tmp 11) (.const (.int .u64 1)) v11 (.int .u64 1)) w fun v12 =>
  sV P (Instr.sliceAt 9 (.string ⟨#[48, 49, 50, 51, 52, 53, 54, 55, 56, 57, 97, 98, 99, 100, 101, 102]⟩) (some v8) (some v12) none) w fun v13 =>
  kV P (binV .lss 28 (.tmp 14) (.tmp 15) t0 t1) w fun v16 w =>
  condK v16
  (K v13 w)
  (kV P (binV .quo 28 (.tmp 18) (.tmp 19) t0 t1) w fun v20 w =>
  kN P (callN (.func (.func 32) #[] #[]) #[v20, t1]) w fun v22 w =>
  kV P (binV .add 9 (.tmp 22) (.tmp 23) v22 v13) w fun v24 w =>
  K v24 w)) w
theorem F32_eq (P : Program) (t0 t1 : Value) (w : World) (K : Value → World → Prop) : funE P ⟨[], [], []⟩ Try.f32 [t0, t1] w K = F32 P t0 t1 w K := by kernel_rfl
theorem F32_ok (t0 t1 : Value) (w : World) (K : Value → World → Prop) (h : F32 Try.prog t0 t1 w K) : callsK Try.prog 32 #[t0, t1] w K := calls_of_eq mixedC Try.func32 (F32_eq _ t0 t1 w K) h

/-- mintmark/mintmarkref13.Rows -/
def F33 (P : Program) (w : World) (K : Value → World → Prop) : Prop :=
  kV P (Instr.build 77 #[(0, (.string ⟨#[108, 117, 105]⟩)), (1, (.int .u8 85)), (2, (.int .u32 55)), (3, (.int .u32 0)), (4, (.int .u32 0))]) w fun v1 w =>
  kV P (Instr.build 77 #[(0, (.string ⟨#[97, 117, 105, 112, 99]⟩)), (1, (.int .u8 85)), (2, (.int .u32 23)), (3, (.int .u32 0)), (4, (.int .u32 0))]) w fun v2 w =>
  kV P (Instr.build 77 #[(0, (.string ⟨#[106, 97, 108]⟩)), (1, (.int .u8 74)), (2, (.int .u32 111)), (3, (.int .u32 0)), (4, (.int .u32 0))]) w fun v3 w =>
  kV P (Instr.build 77 #[(0, (.string ⟨#[106, 97, 108, 114]⟩)), (1, (.int .u8 73)), (2, (.int .u32 103)), (3, (.int .u32 0)), (4, (.int .u32 0))]) w fun v4 w =>
  kV P (Instr.build 77 #[(0, (.string ⟨#[98, 101, 113]⟩)), (1, (.int .u8 66)), (2, (.int .u32 99)), (3, (.int .u32 0)), (4, (.int .u32 0))]) w fun v5 w =>
  kV P (Instr.build 77 #[(0, (.string ⟨#[98, 110, 101]⟩)), (1, (.int .u8 66)), (2, (.int .u32 99)), (3, (.int .u32 1)), (4, (.int .u32 0))]) w fun v6 w =>
  kV P (Instr.build 77 #[(0, (.string ⟨#[98, 108, 116]⟩)), (1, (.int .u8 66)), (2, (.int .u32 99)), (3, (.int .u32 4)), (4, (.int .u32 0))]) w fun v7 w =>
  kV P (Instr.build 77 #[(0, (.string ⟨#[98, 103, 101]⟩)), (1, (.int .u8 66)), (2, (.int .u32 99)), (3, (.int .u32 5)), (4, (.int .u32 0))]) w fun v8 w =>
  kV P (Instr.build 77 #[(0, (.string ⟨#[98, 108, 116, 117]⟩)), (1, (.int .u8 66)), (2, (.int .u32 99)), (3, (.int .u32 6)), (4, (.int .u32 0))]) w fun v9 w =>
  kV P (Instr.build 77 #[(0, (.string ⟨#[98, 103, 101, 117]⟩)), (1, (.int .u8 66)), (2, (.int .u32 99)), (3, (.int .u32 7)), (4, (.int .u32 0))]) w fun v10 w =>
  kV P (Instr.build 77 #[(0, (.string ⟨#[108, 98]⟩)), (1, (.int .u8 73)), (2, (.int .u32 3)), (3, (.int .u32 0)), (4, (.int .u32 0))]) w fun v11 w =>
  kV P (Instr.build 77 #[(0, (.string ⟨#[108, 104]⟩)), (1, (.int .u8 73)), (2, (.int .u32 3)), (3, (.int .u32 1)), (4, (.int .u32 0))]) w fun v12 w =>
  kV P (Instr.build 77 #[(0, (.string ⟨#[108, 119]⟩)), (1, (.int .u8 73)), (2, (.int .u32 3)), (3, (.int .u32 2)), (4, (.int .u32 0))]) w fun v13 w =>
  kV P (Instr.build 77 #[(0, (.string ⟨#[108, 100]⟩)), (1, (.int .u8 73)), (2, (.int .u32 3)), (3, (.int .u32 3)), (4, (.int .u32 0))]) w fun v14 w =>
  kV P (Instr.build 77 #[(0, (.string ⟨#[108, 98, 117]⟩)), (1, (.int .u8 73)), (2, (.int .u32 3)), (3, (.int .u32 4)), (4, (.int .u32 0))]) w fun v15 w =>
  kV P (Instr.build 77 #[(0, (.string ⟨#[108, 104, 117]⟩)), (1, (.int .u8 73)), (2, (.int .u32 3)), (3, (.int .u32 5)), (4, (.int .u32 0))]) w fun v16 w =>
  kV P (Instr.build 77 #[(0, (.string ⟨#[108, 119, 117]⟩)), (1, (.int .u8 73)), (2, (.int .u32 3)), (3, (.int .u32 6)), (4, (.int .u32 0))]) w fun v17 w =>
  kV P (Instr.build 77 #[(0, (.string ⟨#[115, 98]⟩)), (1, (.int .u8 83)), (2, (.int .u32 35)), (3, (.int .u32 0)), (4, (.int .u32 0))]) w fun v18 w =>
  kV P (Instr.build 77 #[(0, (.string ⟨#[115, 104]⟩)), (1, (.int .u8 83)), (2, (.int .u32 35)), (3, (.int .u32 1)), (4, (.int .u32 0))]) w fun v19 w =>
  kV P (Instr.build 77 #[(0, (.string ⟨#[115, 119]⟩)), (1, (.int .u8 83)), (2, (.int .u32 35)), (3, (.int .u32 2)), (4, (.int .u32 0))]) w fun v20 w =>
  kV P (Instr.build 77 #[(0, (.string ⟨#[115, 100]⟩)), (1, (.int .u8 83)), (2, (.int .u32 35)), (3, (.int .u32 3)), (4, (.int .u32 0))]) w fun v21 w =>
  kV P (Instr.build 77 #[(0, (.string ⟨#[97, 100, 100, 105]⟩)), (1, (.int .u8 73)), (2, (.int .u32 19)), (3, (.int .u32 0)), (4, (.int .u32 0))]) w fun v22 w =>
  kV P (Instr.build 77 #[(0, (.string ⟨#[115, 108, 116, 105]⟩)), (1, (.int .u8 73)), (2, (.int .u32 19)), (3, (.int .u32 2)), (4, (.int .u32 0))]) w fun v23 w =>
  kV P (Instr.build 77 #[(0, (.string ⟨#[115, 108, 116, 105, 117]⟩)), (1, (.int .u8 73)), (2, (.int .u32 19)), (3, (.int .u32 3)), (4, (.int .u32 0))]) w fun v24 w =>
  kV P (Instr.build 77 #[(0, (.string ⟨#[120, 111, 114, 105]⟩)), (1, (.int .u8 73)), (2, (.int .u32 19)), (3, (.int .u32 4)), (4, (.int .u32 0))]) w fun v25 w =>
  kV P (Instr.build 77 #[(0, (.string ⟨#[111, 114, 105]⟩)), (1, (.int .u8 73)), (2, (.int .u32 19)), (3, (.int .u32 6)), (4, (.int .u32 0))]) w fun v26 w =>
  kV P (Instr.build 77 #[(0, (.string ⟨#[97, 110, 100, 105]⟩)), (1, (.int .u8 73)), (2, (.int .u32 19)), (3, (.int .u32 7)), (4, (.int .u32 0))]) w fun v27 w =>
  kV P (Instr.build 77 #[(0, (.string ⟨#[115, 108, 108, 105]⟩)), (1, (.int .u8 72)), (2, (.int .u32 19)), (3, (.int .u32 1)), (4, (.int .u32 0))]) w fun v28 w =>
  kV P (Instr.build 77 #[(0, (.string ⟨#[115, 114, 108, 105]⟩)), (1, (.int .u8 72)), (2, (.int .u32 19)), (3, (.int .u32 5)), (4, (.int .u32 0))]) w fun v29 w =>
  kV P (Instr.build 77 #[(0, (.string ⟨#[115, 114, 97, 105]⟩)), (1, (.int .u8 72)), (2, (.int .u32 19)), (3, (.int .u32 5)), (4, (.int .u32 16))]) w fun v30 w =>
  kV P (Instr.build 77 #[(0, (.string ⟨#[97, 100, 100]⟩)), (1, (.int .u8 82)), (2, (.int .u32 51)), (3, (.int .u32 0)), (4, (.int .u32 0))]) w fun v31 w =>
  kV P (Instr.build 77 #[(0, (.string ⟨#[115, 117, 98]⟩)), (1, (.int .u8 82)), (2, (.int .u32 51)), (3, (.int .u32 0)), (4, (.int .u32 32))]) w fun v32 w =>
  kV P (Instr.build 77 #[(0, (.string ⟨#[115, 108, 108]⟩)), (1, (.int .u8 82)), (2, (.int .u32 51)), (3, (.int .u32 1)), (4, (.int .u32 0))]) w fun v33 w =>
  kV P (Instr.build 77 #[(0, (.string ⟨#[115, 108, 116]⟩)), (1, (.int .u8 82)), (2, (.int .u32 51)), (3, (.int .u32 2)), (4, (.int .u32 0))]) w fun v34 w =>
  kV P (Instr.build 77 #[(0, (.string ⟨#[115, 108, 116, 117]⟩)), (1, (.int .u8 82)), (2, (.int .u32 51)), (3, (.int .u32 3)), (4, (.int .u32 0))]) w fun v35 w =>
  kV P (Instr.build 77 #[(0, (.string ⟨#[120, 111, 114]⟩)), (1, (.int .u8 82)), (2, (.int .u32 51)), (3, (.int .u32 4)), (4, (.int .u32 0))]) w fun v36 w =>
  kV P (Instr.build 77 #[(0, (.string ⟨#[115, 114, 108]⟩)), (1, (.int .u8 82)), (2, (.int .u32 51)), (3, (.int .u32 5)), (4, (.int .u32 0))]) w fun v37 w =>
  kV P (Instr.build 77 #[(0, (.string ⟨#[115, 114, 97]⟩)), (1, (.int .u8 82)), (2, (.int .u32 51)), (3, (.int .u32 5)), (4, (.int .u32 32))]) w fun v38 w =>
  kV P (Instr.build 77 #[(0, (.string ⟨#[111, 114]⟩)), (1, (.int .u8 82)), (2, (.int .u32 51)), (3, (.int .u32 6)), (4, (.int .u32 0))]) w fun v39 w =>
  kV P (Instr.build 77 #[(0, (.string ⟨#[97, 110, 100]⟩)), (1, (.int .u8 82)), (2, (.int .u32 51)), (3, (.int .u32 7)), (4, (.int .u32 0))]) w fun v40 w =>
  kV P (Instr.build 77 #[(0, (.string ⟨#[101, 99, 97, 108, 108]⟩)), (1, (.int .u8 78)), (2, (.int .u32 115)), (3, (.int .u32 0)), (4, (.int .u32 0))]) w fun v41 w =>
  kV P (Instr.build 77 #[(0, (.string ⟨#[101, 98, 114, 101, 97, 107]⟩)), (1, (.int .u8 78)), (2, (.int .u32 115)), (3, (.int .u32 0)), (4, (.int .u32 1))]) w fun v42 w =>
  kV P (Instr.build 77 #[(0, (.string ⟨#[99, 108, 99]⟩)), (1, (.int .u8 73)), (2, (.int .u32 15)), (3, (.int .u32 2)), (4, (.int .u32 0))]) w fun v43 w =>
  kV P (Instr.build 77 #[(0, (.string ⟨#[99, 115, 99]⟩)), (1, (.int .u8 83)), (2, (.int .u32 35)), (3, (.int .u32 4)), (4, (.int .u32 0))]) w fun v44 w =>
  kV P (Instr.build 77 #[(0, (.string ⟨#[99, 115, 101, 116, 98, 111, 117, 110, 100, 115]⟩)), (1, (.int .u8 82)), (2, (.int .u32 91)), (3, (.int .u32 0)), (4, (.int .u32 8))]) w fun v45 w =>
  kV P (Instr.build 77 #[(0, (.string ⟨#[99, 115, 101, 116, 98, 111, 117, 110, 100, 115, 101, 120, 97, 99, 116]⟩)), (1, (.int .u8 82)), (2, (.int .u32 91)), (3, (.int .u32 0)), (4, (.int .u32 9))]) w fun v46 w =>
  kV P (Instr.build 77 #[(0, (.string ⟨#[99, 115, 101, 97, 108]⟩)), (1, (.int .u8 82)), (2, (.int .u32 91)), (3, (.int .u32 0)), (4, (.int .u32 11))]) w fun v47 w =>
  kV P (Instr.build 77 #[(0, (.string ⟨#[99, 117, 110, 115, 101, 97, 108]⟩)), (1, (.int .u8 82)), (2, (.int .u32 91)), (3, (.int .u32 0)), (4, (.int .u32 12))]) w fun v48 w =>
  kV P (Instr.build 77 #[(0, (.string ⟨#[99, 97, 110, 100, 112, 101, 114, 109]⟩)), (1, (.int .u8 82)), (2, (.int .u32 91)), (3, (.int .u32 0)), (4, (.int .u32 13))]) w fun v49 w =>
  kV P (Instr.build 77 #[(0, (.string ⟨#[99, 115, 101, 116, 97, 100, 100, 114]⟩)), (1, (.int .u8 82)), (2, (.int .u32 91)), (3, (.int .u32 0)), (4, (.int .u32 16))]) w fun v50 w =>
  kV P (Instr.build 77 #[(0, (.string ⟨#[99, 105, 110, 99, 111, 102, 102, 115, 101, 116]⟩)), (1, (.int .u8 82)), (2, (.int .u32 91)), (3, (.int .u32 0)), (4, (.int .u32 17))]) w fun v51 w =>
  kV P (Instr.build 77 #[(0, (.string ⟨#[99, 115, 117, 98]⟩)), (1, (.int .u8 82)), (2, (.int .u32 91)), (3, (.int .u32 0)), (4, (.int .u32 20))]) w fun v52 w =>
  kV P (Instr.build 77 #[(0, (.string ⟨#[99, 98, 117, 105, 108, 100, 99, 97, 112]⟩)), (1, (.int .u8 82)), (2, (.int .u32 91)), (3, (.int .u32 0)), (4, (.int .u32 29))]) w fun v53 w =>
  kV P (Instr.build 77 #[(0, (.string ⟨#[99, 116, 101, 115, 116, 115, 117, 98, 115, 101, 116]⟩)), (1, (.int .u8 82)), (2, (.int .u32 91)), (3, (.int .u32 0)), (4, (.int .u32 32))]) w fun v54 w =>
  kV P (Instr.build 77 #[(0, (.string ⟨#[99, 115, 101, 116, 101, 113, 117, 97, 108]⟩)), (1, (.int .u8 82)), (2, (.int .u32 91)), (3, (.int .u32 0)), (4, (.int .u32 33))]) w fun v55 w =>
  kV P (Instr.build 77 #[(0, (.string ⟨#[99, 103, 101, 116, 112, 101, 114, 109]⟩)), (1, (.int .u8 71)), (2, (.int .u32 91)), (3, (.int .u32 0)), (4, (.int .u32 0))]) w fun v56 w =>
  kV P (Instr.build 77 #[(0, (.string ⟨#[99, 103, 101, 116, 116, 121, 112, 101]⟩)), (1, (.int .u8 71)), (2, (.int .u32 91)), (3, (.int .u32 0)), (4, (.int .u32 1))]) w fun v57 w =>
  kV P (Instr.build 77 #[(0, (.string ⟨#[99, 103, 101, 116, 98, 97, 115, 101]⟩)), (1, (.int .u8 71)), (2, (.int .u32 91)), (3, (.int .u32 0)), (4, (.int .u32 2))]) w fun v58 w =>
  kV P (Instr.build 77 #[(0, (.string ⟨#[99, 103, 101, 116, 108, 101, 110]⟩)), (1, (.int .u8 71)), (2, (.int .u32 91)), (3, (.int .u32 0)), (4, (.int .u32 3))]) w fun v59 w =>
  kV P (Instr.build 77 #[(0, (.string ⟨#[99, 103, 101, 116, 116, 97, 103]⟩)), (1, (.int .u8 71)), (2, (.int .u32 91)), (3, (.int .u32 0)), (4, (.int .u32 4))]) w fun v60 w =>
  kV P (Instr.build 77 #[(0, (.string ⟨#[99, 103, 101, 116, 111, 102, 102, 115, 101, 116]⟩)), (1, (.int .u8 71)), (2, (.int .u32 91)), (3, (.int .u32 0)), (4, (.int .u32 6))]) w fun v61 w =>
  kV P (Instr.build 77 #[(0, (.string ⟨#[99, 114, 114, 108]⟩)), (1, (.int .u8 71)), (2, (.int .u32 91)), (3, (.int .u32 0)), (4, (.int .u32 8))]) w fun v62 w =>
  kV P (Instr.build 77 #[(0, (.string ⟨#[99, 114, 97, 109]⟩)), (1, (.int .u8 71)), (2, (.int .u32 91)), (3, (.int .u32 0)), (4, (.int .u32 9))]) w fun v63 w =>
  kV P (Instr.build 77 #[(0, (.string ⟨#[99, 109, 111, 118, 101]⟩)), (1, (.int .u8 71)), (2, (.int .u32 91)), (3, (.int .u32 0)), (4, (.int .u32 10))]) w fun v64 w =>
  kV P (Instr.build 77 #[(0, (.string ⟨#[99, 99, 108, 101, 97, 114, 116, 97, 103]⟩)), (1, (.int .u8 71)), (2, (.int .u32 91)), (3, (.int .u32 0)), (4, (.int .u32 11))]) w fun v65 w =>
  kV P (Instr.build 77 #[(0, (.string ⟨#[99, 103, 101, 116, 97, 100, 100, 114]⟩)), (1, (.int .u8 71)), (2, (.int .u32 91)), (3, (.int .u32 0)), (4, (.int .u32 15))]) w fun v66 w =>
  kV P (Instr.build 77 #[(0, (.string ⟨#[99, 115, 101, 97, 108, 101, 110, 116, 114, 121]⟩)), (1, (.int .u8 71)), (2, (.int .u32 91)), (3, (.int .u32 0)), (4, (.int .u32 17))]) w fun v67 w =>
  kV P (Instr.build 77 #[(0, (.string ⟨#[99, 105, 110, 99, 111, 102, 102, 115, 101, 116, 105, 109, 109]⟩)), (1, (.int .u8 73)), (2, (.int .u32 91)), (3, (.int .u32 1)), (4, (.int .u32 0))]) w fun v68 w =>
  kV P (Instr.build 77 #[(0, (.string ⟨#[99, 115, 101, 116, 98, 111, 117, 110, 100, 115, 105, 109, 109]⟩)), (1, (.int .u8 67)), (2, (.int .u32 91)), (3, (.int .u32 2)), (4, (.int .u32 0))]) w fun v69 w =>
  kV P (Instr.buildSlice 73 69 #[(0, v1), (1, v2), (2, v3), (3, v4), (4, v5), (5, v6), (6, v7), (7, v8), (8, v9), (9, v10), (10, v11), (11, v12), (12, v13), (13, v14), (14, v15), (15, v16), (16, v17), (17, v18), (18, v19), (19, v20), (20, v21), (21, v22), (22, v23), (23, v24), (24, v25), (25, v26), (26, v27), (27, v28), (28, v29), (29, v30), (30, v31), (31, v32), (32, v33), (33, v34), (34, v35), (35, v36), (36, v37), (37, v38), (38, v39), (39, v40), (40, v41), (41, v42), (42, v43), (43, v44), (44, v45), (45, v46), (46, v47), (47, v48), (48, v49), (49, v50), (50, v51), (51, v52), (52, v53), (53, v54), (54, v55), (55, v56), (56, v57), (57, v58), (58, v59), (59, v60), (60, v61), (61, v62), (62, v63), (63, v64), (64, v65), (65, v66), (66, v67), (67, v68), (68, v69)]) w fun v70 w =>
  K v70 w
theorem F33_eq (P : Program) (w : World) (K : Value → World → Prop) : funE P ⟨[], [], []⟩ Try.f33 [] w K = F33 P  w K := by kernel_rfl
theorem F33_ok (w : World) (K : Value → World → Prop) (h : F33 Try.prog  w K) : callsK Try.prog 33 #[] w K := calls_of_eq mixedC Try.func33 (F33_eq _  w K) h

-- 34 mintmark/mintmarkref29.told: too great (97974)
/-- mintmark/script.whole -/
def F35 (P : Program) (t0 : Value) (w : World) (K : Value → World → Prop) : Prop :=
  kV P (binV .lss 3 (.tmp 3) (.const (.int .i64 0)) t0 (.int .i64 0)) w fun v4 w =>
  condK v4
  (kV P (convert 3 28 t0) w fun v6 w =>
  kV P (Op.unary .neg v6) w fun v7 w =>
  kN P (callN (.func (.func 36) #[] #[]) #[v7, (.int .u64 10)]) w fun v8 w =>
  kV P (binV .add 9 (.const (.string ⟨#[45]⟩)) (.tmp 8) (.string ⟨#[45]⟩) v8) w fun v9 w =>
  K v9 w)
  (kV P (convert 3 28 t0) w fun v11 w =>
  kN P (callN (.func (.func 36) #[] #[]) #[v11, (.int .u64 10)]) w fun v12 w =>
  K v12 w)
theorem F35_eq (P : Program) (t0 : Value) (w : World) (K : Value → World → Prop) : funE P ⟨[], [], []⟩ Try.f35 [t0] w K = F35 P t0 w K := by kernel_rfl
theorem F35_ok (t0 : Value) (w : World) (K : Value → World → Prop) (h : F35 Try.prog t0 w K) : callsK Try.prog 35 #[t0] w K := calls_of_eq mixedC Try.func35 (F35_eq _ t0 w K) h

/-- mintmark/script.digits -/
def F36 (P : Program) (t0 t1 : Value) (w : World) (K : Value → World → Prop) : Prop :=
  loopT (fun R0 s0 w => ∀ _ : Nat → Value,
  kV P (binV .rem 28 (.tmp 6) (.tmp 7) (s0.getD 1 undef) t1) w fun v8 w =>
  kV P (Instr.index 9 (.string ⟨#[48, 49, 50, 51, 52, 53, 54, 55, 56, 57, 97, 98, 99, 100, 101, 102]⟩) v8) w fun v9 w =>
  kV P (Instr.buildSlice 60 1 #[(0, v9)]) w fun v10 w =>
  kV P (Builtin.append_ #[60, 60] 60 #[v10, (s0.getD 0 undef)]) w fun v12 w =>
  kV P (binV .quo 28 (.tmp 13) (.tmp 14) (s0.getD 1 undef) t1) w fun v15 w =>
  kV P (binV .eql 28 (.tmp 16) (.const (.int .u64 0)) v15 (.int .u64 0)) w fun v17 w =>
  condK v17
  (kV P (convert 60 9 v12) w fun v19 w =>
  K v19 w)
  (R0 [v12, v15] w)) [(.slice none 0 0), t0] w
theorem F36_eq (P : Program) (t0 t1 : Value) (w : World) (K : Value → World → Prop) : funE P ⟨[], [(2, [5, 0])], []⟩ Try.f36 [t0, t1] w K = F36 P t0 t1 w K := by kernel_rfl
theorem F36_ok (t0 t1 : Value) (w : World) (K : Value → World → Prop) (h : F36 Try.prog t0 t1 w K) : callsK Try.prog 36 #[t0, t1] w K := calls_of_eq mixedC Try.func36 (F36_eq _ t0 t1 w K) h

/-- mintmark/inst.Name -/
def F37 (P : Program) (t0 : Value) (w : World) (K : Value → World → Prop) : Prop :=
  kN P (callN (.func (.func 55) #[] #[]) #[t0]) w fun v7 w =>
  kV P (Instr.extract v7 0) w fun v8 w =>
  kV P (Instr.extract v7 1) w fun v9 w =>
  kV P (Instr.alloc 109 true (.tuple #[])) w fun v3 w =>
  kU P (Instr.storeAt 109 v3 v8) w fun _ w =>
  kV P (Instr.fieldAt 109 v3 0) w fun v10 w =>
  kV P (Instr.loadAt 9 v10) w fun v11 w =>
  K v11 w
theorem F37_eq (P : Program) (t0 : Value) (w : World) (K : Value → World → Prop) : funE P ⟨[], [], []⟩ Try.f37 [t0] w K = F37 P t0 w K := by kernel_rfl
theorem F37_ok (t0 : Value) (w : World) (K : Value → World → Prop) (h : F37 Try.prog t0 w K) : callsK Try.prog 37 #[t0] w K := calls_of_eq mixedC Try.func37 (F37_eq _ t0 w K) h

-- 38 mintmark/script.Tell: too great (247867)
/-- mintmark/script.Steps -/
def F39 (P : Program) (t0 : Value) (w : World) (K : Value → World → Prop) : Prop :=
  kV P (Instr.box 60 t0) w fun v1 w =>
  K (.func (.func 60) #[] #[v1]) w
theorem F39_eq (P : Program) (t0 : Value) (w : World) (K : Value → World → Prop) : funE P ⟨[], [], []⟩ Try.f39 [t0] w K = F39 P t0 w K := by kernel_rfl
theorem F39_ok (t0 : Value) (w : World) (K : Value → World → Prop) (h : F39 Try.prog t0 w K) : callsK Try.prog 39 #[t0] w K := calls_of_eq mixedC Try.func39 (F39_eq _ t0 w K) h

/-- mintmark/mintmarklaw29.one$1 -/
def F40 (P : Program) (t0 t1 t2 : Value) (w : World) (K : Value → World → Prop) : Prop :=
  kV P (Instr.box 84 t0) w fun v3 w =>
  kV P (Instr.loadAt 3 t1) w fun v5 w =>
  kV P (binV .add 3 (.tmp 5) (.const (.int .i64 1)) v5 (.int .i64 1)) w fun v6 w =>
  kU P (Instr.storeAt 3 t1 v6) w fun _ w =>
  kV P (Instr.loadAt 4 t2) w fun v7 w =>
  joinK (fun J0 : Value → World → Prop => gdK (yb v7) true (fun k => kV P (Instr.loadAt 84 v3) w k) w fun v9 w =>
  gdK (yb v7) true (fun k => kV P (Instr.build 84 #[(0, (.int .i64 1)), (2, (.int .i64 2))]) w k) w fun v10 w =>
  gdK (yb v7) true (fun k => kV P (binV .eql 84 (.tmp 9) (.tmp 10) v9 v10) w k) w fun v11 w =>
  kN P (pickN v7 v11 (.bool false)) w fun v12_1 w =>
  J0 v12_1 w) fun v12 w =>
  kU P (Instr.storeAt 4 t2 v12) w fun _ w =>
  K (.bool true) w
theorem F40_eq (P : Program) (t0 t1 t2 : Value) (w : World) (K : Value → World → Prop) : funE P ⟨[], [], []⟩ Try.f40 [t0, t1, t2] w K = F40 P t0 t1 t2 w K := by kernel_rfl
theorem F40_ok (t0 t1 t2 : Value) (w : World) (K : Value → World → Prop) (h : F40 Try.prog t0 t1 t2 w K) : callsK Try.prog 40 #[t0, t1, t2] w K := calls_of_eq mixedC Try.func40 (F40_eq _ t0 t1 t2 w K) h

/-- mintmark/mintmarkref05.Look -/
def F52 (P : Program) (t0 : Value) (w : World) (K : Value → World → Prop) : Prop :=
  kV P (Instr.box 38 t0) w fun v1 w =>
  kV P (Instr.alloc 104 true (.tuple #[])) w fun v2 w =>
  joinL (fun J0 =>
  drewK (fun w =>
  pV P (Instr.fieldAt 38 v1 1) fun v7 =>
  pV P (Instr.fieldAt 38 v1 2) fun v10 =>
  (kV P (Instr.loadAt 28 v7) w fun v8 w =>
  (kN P (callN (.func (.func 74) #[] #[]) #[v8]) w fun v9 w =>
  (kV P (Instr.loadAt 28 v10) w fun v11 w =>
  (kN P (callN (.func (.func 73) #[] #[]) #[v9, v11]) w fun v12 w =>
  pV P (Instr.extract v12 0) fun v13 =>
  pV P (Instr.extract v12 1) fun v14 =>
  kV P (Instr.alloc 102 true (.tuple #[])) w fun v4 w =>
  kU P (Instr.storeAt 102 v4 v13) w fun _ w =>
  J0 [v4, v14] w) ∧
  (kV P (Instr.alloc 102 true (.tuple #[])) w fun v4_1 w =>
  kN P (callN (.func (.func 73) #[] #[]) #[v9, v11]) w fun v12_1 w =>
  pV P (Instr.extract v12_1 0) fun v13_1 =>
  pV P (Instr.extract v12_1 1) fun v14_1 =>
  kU P (Instr.storeAt 102 v4_1 v13_1) w fun _ w =>
  J0 [v4_1, v14_1] w)) ∧
  (kV P (Instr.alloc 102 true (.tuple #[])) w fun v4_2 w =>
  kV P (Instr.loadAt 28 v10) w fun v11_1 w =>
  kN P (callN (.func (.func 73) #[] #[]) #[v9, v11_1]) w fun v12_2 w =>
  pV P (Instr.extract v12_2 0) fun v13_2 =>
  pV P (Instr.extract v12_2 1) fun v14_2 =>
  kU P (Instr.storeAt 102 v4_2 v13_2) w fun _ w =>
  J0 [v4_2, v14_2] w)) ∧
  (kV P (Instr.loadAt 28 v10) w fun v11_2 w =>
  (kN P (callN (.func (.func 74) #[] #[]) #[v8]) w fun v9_1 w =>
  (kN P (callN (.func (.func 73) #[] #[]) #[v9_1, v11_2]) w fun v12_3 w =>
  pV P (Instr.extract v12_3 0) fun v13_3 =>
  pV P (Instr.extract v12_3 1) fun v14_3 =>
  kV P (Instr.alloc 102 true (.tuple #[])) w fun v4_3 w =>
  kU P (Instr.storeAt 102 v4_3 v13_3) w fun _ w =>
  J0 [v4_3, v14_3] w) ∧
  (kV P (Instr.alloc 102 true (.tuple #[])) w fun v4_4 w =>
  kN P (callN (.func (.func 73) #[] #[]) #[v9_1, v11_2]) w fun v12_4 w =>
  pV P (Instr.extract v12_4 0) fun v13_4 =>
  pV P (Instr.extract v12_4 1) fun v14_4 =>
  kU P (Instr.storeAt 102 v4_4 v13_4) w fun _ w =>
  J0 [v4_4, v14_4] w)) ∧
  (kV P (Instr.alloc 102 true (.tuple #[])) w fun v4_5 w =>
  kN P (callN (.func (.func 74) #[] #[]) #[v8]) w fun v9_2 w =>
  kN P (callN (.func (.func 73) #[] #[]) #[v9_2, v11_2]) w fun v12_5 w =>
  pV P (Instr.extract v12_5 0) fun v13_5 =>
  pV P (Instr.extract v12_5 1) fun v14_5 =>
  kU P (Instr.storeAt 102 v4_5 v13_5) w fun _ w =>
  J0 [v4_5, v14_5] w)) ∧
  (kV P (Instr.alloc 102 true (.tuple #[])) w fun v4_6 w =>
  (kN P (callN (.func (.func 74) #[] #[]) #[v8]) w fun v9_3 w =>
  kV P (Instr.loadAt 28 v10) w fun v11_3 w =>
  kN P (callN (.func (.func 73) #[] #[]) #[v9_3, v11_3]) w fun v12_6 w =>
  pV P (Instr.extract v12_6 0) fun v13_6 =>
  pV P (Instr.extract v12_6 1) fun v14_6 =>
  kU P (Instr.storeAt 102 v4_6 v13_6) w fun _ w =>
  J0 [v4_6, v14_6] w) ∧
  (kV P (Instr.loadAt 28 v10) w fun v11_4 w =>
  kN P (callN (.func (.func 74) #[] #[]) #[v8]) w fun v9_4 w =>
  kN P (callN (.func (.func 73) #[] #[]) #[v9_4, v11_4]) w fun v12_7 w =>
  pV P (Instr.extract v12_7 0) fun v13_7 =>
  pV P (Instr.extract v12_7 1) fun v14_7 =>
  kU P (Instr.storeAt 102 v4_6 v13_7) w fun _ w =>
  J0 [v4_6, v14_7] w))) ∧
  (kV P (Instr.loadAt 28 v10) w fun v11_5 w =>
  (kV P (Instr.loadAt 28 v7) w fun v8_1 w =>
  (kN P (callN (.func (.func 74) #[] #[]) #[v8_1]) w fun v9_5 w =>
  (kN P (callN (.func (.func 73) #[] #[]) #[v9_5, v11_5]) w fun v12_8 w =>
  pV P (Instr.extract v12_8 0) fun v13_8 =>
  pV P (Instr.extract v12_8 1) fun v14_8 =>
  kV P (Instr.alloc 102 true (.tuple #[])) w fun v4_7 w =>
  kU P (Instr.storeAt 102 v4_7 v13_8) w fun _ w =>
  J0 [v4_7, v14_8] w) ∧
  (kV P (Instr.alloc 102 true (.tuple #[])) w fun v4_8 w =>
  kN P (callN (.func (.func 73) #[] #[]) #[v9_5, v11_5]) w fun v12_9 w =>
  pV P (Instr.extract v12_9 0) fun v13_9 =>
  pV P (Instr.extract v12_9 1) fun v14_9 =>
  kU P (Instr.storeAt 102 v4_8 v13_9) w fun _ w =>
  J0 [v4_8, v14_9] w)) ∧
  (kV P (Instr.alloc 102 true (.tuple #[])) w fun v4_9 w =>
  kN P (callN (.func (.func 74) #[] #[]) #[v8_1]) w fun v9_6 w =>
  kN P (callN (.func (.func 73) #[] #[]) #[v9_6, v11_5]) w fun v12_10 w =>
  pV P (Instr.extract v12_10 0) fun v13_10 =>
  pV P (Instr.extract v12_10 1) fun v14_10 =>
  kU P (Instr.storeAt 102 v4_9 v13_10) w fun _ w =>
  J0 [v4_9, v14_10] w)) ∧
  (kV P (Instr.alloc 102 true (.tuple #[])) w fun v4_10 w =>
  kV P (Instr.loadAt 28 v7) w fun v8_2 w =>
  kN P (callN (.func (.func 74) #[] #[]) #[v8_2]) w fun v9_7 w =>
  kN P (callN (.func (.func 73) #[] #[]) #[v9_7, v11_5]) w fun v12_11 w =>
  pV P (Instr.extract v12_11 0) fun v13_11 =>
  pV P (Instr.extract v12_11 1) fun v14_11 =>
  kU P (Instr.storeAt 102 v4_10 v13_11) w fun _ w =>
  J0 [v4_10, v14_11] w)) ∧
  (kV P (Instr.alloc 102 true (.tuple #[])) w fun v4_11 w =>
  (kV P (Instr.loadAt 28 v7) w fun v8_3 w =>
  (kN P (callN (.func (.func 74) #[] #[]) #[v8_3]) w fun v9_8 w =>
  kV P (Instr.loadAt 28 v10) w fun v11_6 w =>
  kN P (callN (.func (.func 73) #[] #[]) #[v9_8, v11_6]) w fun v12_12 w =>
  pV P (Instr.extract v12_12 0) fun v13_12 =>
  pV P (Instr.extract v12_12 1) fun v14_12 =>
  kU P (Instr.storeAt 102 v4_11 v13_12) w fun _ w =>
  J0 [v4_11, v14_12] w) ∧
  (kV P (Instr.loadAt 28 v10) w fun v11_7 w =>
  kN P (callN (.func (.func 74) #[] #[]) #[v8_3]) w fun v9_9 w =>
  kN P (callN (.func (.func 73) #[] #[]) #[v9_9, v11_7]) w fun v12_13 w =>
  pV P (Instr.extract v12_13 0) fun v13_13 =>
  pV P (Instr.extract v12_13 1) fun v14_13 =>
  kU P (Instr.storeAt 102 v4_11 v13_13) w fun _ w =>
  J0 [v4_11, v14_13] w)) ∧
  (kV P (Instr.loadAt 28 v10) w fun v11_8 w =>
  kV P (Instr.loadAt 28 v7) w fun v8_4 w =>
  kN P (callN (.func (.func 74) #[] #[]) #[v8_4]) w fun v9_10 w =>
  kN P (callN (.func (.func 73) #[] #[]) #[v9_10, v11_8]) w fun v12_14 w =>
  pV P (Instr.extract v12_14 0) fun v13_14 =>
  pV P (Instr.extract v12_14 1) fun v14_14 =>
  kU P (Instr.storeAt 102 v4_11 v13_14) w fun _ w =>
  J0 [v4_11, v14_14] w))) w) fun s0 w => ∀ _ : Nat → Value,
  kV P (Instr.loadAt 102 (s0.getD 0 undef)) w fun v15 w =>
  kV P (Instr.fieldAt 38 v1 1) w fun v16 w =>
  kV P (Instr.loadAt 28 v16) w fun v17 w =>
  kV P (binV .shr 28 (.tmp 17) (.const (.int .u64 32)) v17 (.int .u64 32)) w fun v18 w =>
  kV P (binV .rem 28 (.tmp 18) (.const (.int .u64 512)) v18 (.int .u64 512)) w fun v19 w =>
  kV P (Instr.fieldAt 38 v1 1) w fun v20 w =>
  kV P (Instr.loadAt 28 v20) w fun v21 w =>
  kV P (binV .shr 28 (.tmp 21) (.const (.int .u64 48)) v21 (.int .u64 48)) w fun v22 w =>
  kV P (binV .rem 28 (.tmp 22) (.const (.int .u64 4096)) v22 (.int .u64 4096)) w fun v23 w =>
  kV P (Instr.build 104 #[(0, v15), (1, v19), (2, v23)]) w fun v24 w =>
  kU P (Instr.storeAt 104 v2 v24) w fun _ w =>
  retV P 104 v2 w fun r2 =>
  K (.tuple #[r2, (s0.getD 1 undef)]) w
theorem F52_eq (P : Program) (t0 : Value) (w : World) (K : Value → World → Prop) : funE P ⟨[(1, 999)], [], [(2, [4, 5])]⟩ Try.f52 [t0] w K = F52 P t0 w K := by kernel_rfl
theorem F52_ok (t0 : Value) (w : World) (K : Value → World → Prop) (h : F52 Try.prog t0 w K) : callsK Try.prog 52 #[t0] w K := calls_of_eq mixedC Try.func52 (F52_eq _ t0 w K) h

/-- mintmark/mintmarkref06.Span -/
def F53 (P : Program) (t0 : Value) (w : World) (K : Value → World → Prop) : Prop :=
  kV P (Instr.box 38 t0) w fun v1 w =>
  kV P (Instr.alloc 102 true (.tuple #[])) w fun v2 w =>
  kV P (Instr.loadAt 38 v1) w fun v6 w =>
  kN P (callN (.func (.func 52) #[] #[]) #[v6]) w fun v7 w =>
  kV P (Instr.extract v7 0) w fun v8 w =>
  kV P (Instr.extract v7 1) w fun v9 w =>
  kV P (Instr.alloc 104 true (.tuple #[])) w fun v3 w =>
  kU P (Instr.storeAt 104 v3 v8) w fun _ w =>
  kV P (Instr.fieldAt 104 v3 0) w fun v10 w =>
  kV P (Instr.loadAt 102 v10) w fun v11 w =>
  kU P (Instr.storeAt 102 v2 v11) w fun _ w =>
  retV P 102 v2 w fun r0 =>
  K r0 w
theorem F53_eq (P : Program) (t0 : Value) (w : World) (K : Value → World → Prop) : funE P ⟨[], [], []⟩ Try.f53 [t0] w K = F53 P t0 w K := by kernel_rfl
theorem F53_ok (t0 : Value) (w : World) (K : Value → World → Prop) (h : F53 Try.prog t0 w K) : callsK Try.prog 53 #[t0] w K := calls_of_eq mixedC Try.func53 (F53_eq _ t0 w K) h

/-- mintmark/mintmarkref04.Text -/
def F54 (P : Program) (t0 : Value) (w : World) (K : Value → World → Prop) : Prop :=
  loopT (fun R0 s0 w => ∀ _ : Nat → Value,
  kV P (binV .lss 3 (.tmp 5) (.const (.int .i64 9)) (s0.getD 1 undef) (.int .i64 9)) w fun v6 w =>
  condK v6
  (joinL (fun J2 =>
  kV P (convert 3 129 (s0.getD 1 undef)) w fun v11 w =>
  kV P (binV .shr 28 (.tmp 9) (.tmp 11) t0 v11) w fun v12 w =>
  kV P (binV .and 28 (.tmp 12) (.const (.int .u64 1)) v12 (.int .u64 1)) w fun v13 w =>
  kV P (binV .eql 28 (.tmp 13) (.const (.int .u64 1)) v13 (.int .u64 1)) w fun v14 w =>
  condK v14
  (kV P (binV .add 3 (.tmp 17) (.const (.int .i64 1)) (s0.getD 1 undef) (.int .i64 1)) w fun v18 w =>
  kV P (Instr.sliceAt 9 (.string ⟨#[114, 119, 120, 82, 87, 115, 117, 83, 103]⟩) (some (s0.getD 1 undef)) (some v18) none) w fun v19 w =>
  kV P (binV .add 9 (.tmp 15) (.tmp 19) (s0.getD 0 undef) v19) w fun v20 w =>
  J2 [v20] w)
  (J2 [(s0.getD 0 undef)] w)) fun s2 w => ∀ _ : Nat → Value,
  kV P (binV .add 3 (.tmp 7) (.const (.int .i64 1)) (s0.getD 1 undef) (.int .i64 1)) w fun v8 w =>
  R0 [(s2.getD 0 undef), v8] w)
  (joinL (fun J4 =>
  kV P (binV .gtr 28 (.tmp 21) (.const (.int .u64 511)) t0 (.int .u64 511)) w fun v22 w =>
  condK v22
  (kV P (binV .add 9 (.tmp 23) (.const (.string ⟨#[43]⟩)) (s0.getD 0 undef) (.string ⟨#[43]⟩)) w fun v24 w =>
  J4 [v24] w)
  (J4 [(s0.getD 0 undef)] w)) fun s4 w => ∀ _ : Nat → Value,
  K (s4.getD 0 undef) w)) [(.string ⟨#[]⟩), (.int .i64 0)] w
theorem F54_eq (P : Program) (t0 : Value) (w : World) (K : Value → World → Prop) : funE P ⟨[], [(3, [3, 4])], [(9, [3]), (4, [3])]⟩ Try.f54 [t0] w K = F54 P t0 w K := by kernel_rfl
theorem F54_ok (t0 : Value) (w : World) (K : Value → World → Prop) (h : F54 Try.prog t0 w K) : callsK Try.prog 54 #[t0] w K := calls_of_eq mixedC Try.func54 (F54_eq _ t0 w K) h

/-- mintmark/inst.of -/
def F55 (P : Program) (t0 : Value) (w : World) (K : Value → World → Prop) : Prop :=
  kV P (Instr.alloc 109 true (.tuple #[])) w fun v2 w =>
  kV P (binV .lss 3 (.tmp 4) (.const (.int .i64 1)) t0 (.int .i64 1)) w fun v5 w =>
  joinK (fun J0 : Value → World → Prop => gdK (yb v5) false (fun k => k t0 w) w fun v7 w =>
  gdK (yb v5) false (fun k => kV P (binV .gtr 3 (.tmp 7) (.const (.int .i64 69)) v7 (.int .i64 69)) w k) w fun v8 w =>
  kN P (pickN v5 (.bool true) v8) w fun v9_1 w =>
  J0 v9_1 w) fun v9 w =>
  condK v9
  (kV P (Instr.build 109 #[]) w fun v10 w =>
  kU P (Instr.storeAt 109 v2 v10) w fun _ w =>
  retV P 109 v2 w fun r1 =>
  K (.tuple #[r1, (.bool false)]) w)
  (kN P (callN (.func (.func 75) #[] #[]) #[]) w fun v11 w =>
  kV P (binV .sub 3 (.tmp 12) (.const (.int .i64 1)) t0 (.int .i64 1)) w fun v13 w =>
  kV P (Instr.index 130 v11 v13) w fun v14 w =>
  kU P (Instr.storeAt 109 v2 v14) w fun _ w =>
  retV P 109 v2 w fun r2 =>
  K (.tuple #[r2, (.bool true)]) w)
theorem F55_eq (P : Program) (t0 : Value) (w : World) (K : Value → World → Prop) : funE P ⟨[], [], []⟩ Try.f55 [t0] w K = F55 P t0 w K := by kernel_rfl
theorem F55_ok (t0 : Value) (w : World) (K : Value → World → Prop) (h : F55 Try.prog t0 w K) : callsK Try.prog 55 #[t0] w K := calls_of_eq mixedC Try.func55 (F55_eq _ t0 w K) h

/-- mintmark/capab.Look -/
def F56 (P : Program) (t0 : Value) (w : World) (K : Value → World → Prop) : Prop :=
  kV P (Instr.box 33 t0) w fun v1 w =>
  kV P (Instr.alloc 113 true (.tuple #[])) w fun v2 w =>
  joinL (fun J0 =>
  drewK (fun w =>
  pV P (Instr.fieldAt 33 v1 1) fun v7 =>
  pV P (Instr.fieldAt 33 v1 2) fun v10 =>
  (kV P (Instr.loadAt 28 v7) w fun v8 w =>
  (kN P (callN (.func (.func 77) #[] #[]) #[v8]) w fun v9 w =>
  (kV P (Instr.loadAt 28 v10) w fun v11 w =>
  (kN P (callN (.func (.func 76) #[] #[]) #[v9, v11]) w fun v12 w =>
  pV P (Instr.extract v12 0) fun v13 =>
  pV P (Instr.extract v12 1) fun v14 =>
  kV P (Instr.alloc 47 true (.tuple #[])) w fun v4 w =>
  kU P (Instr.storeAt 47 v4 v13) w fun _ w =>
  J0 [v4, v14] w) ∧
  (kV P (Instr.alloc 47 true (.tuple #[])) w fun v4_1 w =>
  kN P (callN (.func (.func 76) #[] #[]) #[v9, v11]) w fun v12_1 w =>
  pV P (Instr.extract v12_1 0) fun v13_1 =>
  pV P (Instr.extract v12_1 1) fun v14_1 =>
  kU P (Instr.storeAt 47 v4_1 v13_1) w fun _ w =>
  J0 [v4_1, v14_1] w)) ∧
  (kV P (Instr.alloc 47 true (.tuple #[])) w fun v4_2 w =>
  kV P (Instr.loadAt 28 v10) w fun v11_1 w =>
  kN P (callN (.func (.func 76) #[] #[]) #[v9, v11_1]) w fun v12_2 w =>
  pV P (Instr.extract v12_2 0) fun v13_2 =>
  pV P (Instr.extract v12_2 1) fun v14_2 =>
  kU P (Instr.storeAt 47 v4_2 v13_2) w fun _ w =>
  J0 [v4_2, v14_2] w)) ∧
  (kV P (Instr.loadAt 28 v10) w fun v11_2 w =>
  (kN P (callN (.func (.func 77) #[] #[]) #[v8]) w fun v9_1 w =>
  (kN P (callN (.func (.func 76) #[] #[]) #[v9_1, v11_2]) w fun v12_3 w =>
  pV P (Instr.extract v12_3 0) fun v13_3 =>
  pV P (Instr.extract v12_3 1) fun v14_3 =>
  kV P (Instr.alloc 47 true (.tuple #[])) w fun v4_3 w =>
  kU P (Instr.storeAt 47 v4_3 v13_3) w fun _ w =>
  J0 [v4_3, v14_3] w) ∧
  (kV P (Instr.alloc 47 true (.tuple #[])) w fun v4_4 w =>
  kN P (callN (.func (.func 76) #[] #[]) #[v9_1, v11_2]) w fun v12_4 w =>
  pV P (Instr.extract v12_4 0) fun v13_4 =>
  pV P (Instr.extract v12_4 1) fun v14_4 =>
  kU P (Instr.storeAt 47 v4_4 v13_4) w fun _ w =>
  J0 [v4_4, v14_4] w)) ∧
  (kV P (Instr.alloc 47 true (.tuple #[])) w fun v4_5 w =>
  kN P (callN (.func (.func 77) #[] #[]) #[v8]) w fun v9_2 w =>
  kN P (callN (.func (.func 76) #[] #[]) #[v9_2, v11_2]) w fun v12_5 w =>
  pV P (Instr.extract v12_5 0) fun v13_5 =>
  pV P (Instr.extract v12_5 1) fun v14_5 =>
  kU P (Instr.storeAt 47 v4_5 v13_5) w fun _ w =>
  J0 [v4_5, v14_5] w)) ∧
  (kV P (Instr.alloc 47 true (.tuple #[])) w fun v4_6 w =>
  (kN P (callN (.func (.func 77) #[] #[]) #[v8]) w fun v9_3 w =>
  kV P (Instr.loadAt 28 v10) w fun v11_3 w =>
  kN P (callN (.func (.func 76) #[] #[]) #[v9_3, v11_3]) w fun v12_6 w =>
  pV P (Instr.extract v12_6 0) fun v13_6 =>
  pV P (Instr.extract v12_6 1) fun v14_6 =>
  kU P (Instr.storeAt 47 v4_6 v13_6) w fun _ w =>
  J0 [v4_6, v14_6] w) ∧
  (kV P (Instr.loadAt 28 v10) w fun v11_4 w =>
  kN P (callN (.func (.func 77) #[] #[]) #[v8]) w fun v9_4 w =>
  kN P (callN (.func (.func 76) #[] #[]) #[v9_4, v11_4]) w fun v12_7 w =>
  pV P (Instr.extract v12_7 0) fun v13_7 =>
  pV P (Instr.extract v12_7 1) fun v14_7 =>
  kU P (Instr.storeAt 47 v4_6 v13_7) w fun _ w =>
  J0 [v4_6, v14_7] w))) ∧
  (kV P (Instr.loadAt 28 v10) w fun v11_5 w =>
  (kV P (Instr.loadAt 28 v7) w fun v8_1 w =>
  (kN P (callN (.func (.func 77) #[] #[]) #[v8_1]) w fun v9_5 w =>
  (kN P (callN (.func (.func 76) #[] #[]) #[v9_5, v11_5]) w fun v12_8 w =>
  pV P (Instr.extract v12_8 0) fun v13_8 =>
  pV P (Instr.extract v12_8 1) fun v14_8 =>
  kV P (Instr.alloc 47 true (.tuple #[])) w fun v4_7 w =>
  kU P (Instr.storeAt 47 v4_7 v13_8) w fun _ w =>
  J0 [v4_7, v14_8] w) ∧
  (kV P (Instr.alloc 47 true (.tuple #[])) w fun v4_8 w =>
  kN P (callN (.func (.func 76) #[] #[]) #[v9_5, v11_5]) w fun v12_9 w =>
  pV P (Instr.extract v12_9 0) fun v13_9 =>
  pV P (Instr.extract v12_9 1) fun v14_9 =>
  kU P (Instr.storeAt 47 v4_8 v13_9) w fun _ w =>
  J0 [v4_8, v14_9] w)) ∧
  (kV P (Instr.alloc 47 true (.tuple #[])) w fun v4_9 w =>
  kN P (callN (.func (.func 77) #[] #[]) #[v8_1]) w fun v9_6 w =>
  kN P (callN (.func (.func 76) #[] #[]) #[v9_6, v11_5]) w fun v12_10 w =>
  pV P (Instr.extract v12_10 0) fun v13_10 =>
  pV P (Instr.extract v12_10 1) fun v14_10 =>
  kU P (Instr.storeAt 47 v4_9 v13_10) w fun _ w =>
  J0 [v4_9, v14_10] w)) ∧
  (kV P (Instr.alloc 47 true (.tuple #[])) w fun v4_10 w =>
  kV P (Instr.loadAt 28 v7) w fun v8_2 w =>
  kN P (callN (.func (.func 77) #[] #[]) #[v8_2]) w fun v9_7 w =>
  kN P (callN (.func (.func 76) #[] #[]) #[v9_7, v11_5]) w fun v12_11 w =>
  pV P (Instr.extract v12_11 0) fun v13_11 =>
  pV P (Instr.extract v12_11 1) fun v14_11 =>
  kU P (Instr.storeAt 47 v4_10 v13_11) w fun _ w =>
  J0 [v4_10, v14_11] w)) ∧
  (kV P (Instr.alloc 47 true (.tuple #[])) w fun v4_11 w =>
  (kV P (Instr.loadAt 28 v7) w fun v8_3 w =>
  (kN P (callN (.func (.func 77) #[] #[]) #[v8_3]) w fun v9_8 w =>
  kV P (Instr.loadAt 28 v10) w fun v11_6 w =>
  kN P (callN (.func (.func 76) #[] #[]) #[v9_8, v11_6]) w fun v12_12 w =>
  pV P (Instr.extract v12_12 0) fun v13_12 =>
  pV P (Instr.extract v12_12 1) fun v14_12 =>
  kU P (Instr.storeAt 47 v4_11 v13_12) w fun _ w =>
  J0 [v4_11, v14_12] w) ∧
  (kV P (Instr.loadAt 28 v10) w fun v11_7 w =>
  kN P (callN (.func (.func 77) #[] #[]) #[v8_3]) w fun v9_9 w =>
  kN P (callN (.func (.func 76) #[] #[]) #[v9_9, v11_7]) w fun v12_13 w =>
  pV P (Instr.extract v12_13 0) fun v13_13 =>
  pV P (Instr.extract v12_13 1) fun v14_13 =>
  kU P (Instr.storeAt 47 v4_11 v13_13) w fun _ w =>
  J0 [v4_11, v14_13] w)) ∧
  (kV P (Instr.loadAt 28 v10) w fun v11_8 w =>
  kV P (Instr.loadAt 28 v7) w fun v8_4 w =>
  kN P (callN (.func (.func 77) #[] #[]) #[v8_4]) w fun v9_10 w =>
  kN P (callN (.func (.func 76) #[] #[]) #[v9_10, v11_8]) w fun v12_14 w =>
  pV P (Instr.extract v12_14 0) fun v13_14 =>
  pV P (Instr.extract v12_14 1) fun v14_14 =>
  kU P (Instr.storeAt 47 v4_11 v13_14) w fun _ w =>
  J0 [v4_11, v14_14] w))) w) fun s0 w => ∀ _ : Nat → Value,
  drewK (fun w =>
  pV P (Instr.fieldAt 33 v1 1) fun v16 =>
  pV P (Instr.fieldAt 33 v1 1) fun v19 =>
  (kV P (Instr.loadAt 47 (s0.getD 0 undef)) w fun v15 w =>
  (kV P (Instr.loadAt 28 v16) w fun v17 w =>
  (kN P (callN (.func (.func 78) #[] #[]) #[v17, (.int .i64 32), (.int .i64 9)]) w fun v18 w =>
  kV P (Instr.loadAt 28 v19) w fun v20 w =>
  kN P (callN (.func (.func 78) #[] #[]) #[v20, (.int .i64 48), (.int .i64 12)]) w fun v21 w =>
  pV P (Instr.build 113 #[(0, v15), (1, v18), (2, v21)]) fun v22 =>
  kU P (Instr.storeAt 113 v2 v22) w fun _ w =>
  retV P 113 v2 w fun r2 =>
  K (.tuple #[r2, (s0.getD 1 undef)]) w) ∧
  (kV P (Instr.loadAt 28 v19) w fun v20_1 w =>
  kN P (callN (.func (.func 78) #[] #[]) #[v17, (.int .i64 32), (.int .i64 9)]) w fun v18_1 w =>
  kN P (callN (.func (.func 78) #[] #[]) #[v20_1, (.int .i64 48), (.int .i64 12)]) w fun v21_1 w =>
  pV P (Instr.build 113 #[(0, v15), (1, v18_1), (2, v21_1)]) fun v22_1 =>
  kU P (Instr.storeAt 113 v2 v22_1) w fun _ w =>
  retV P 113 v2 w fun r3 =>
  K (.tuple #[r3, (s0.getD 1 undef)]) w)) ∧
  (kV P (Instr.loadAt 28 v19) w fun v20_2 w =>
  kV P (Instr.loadAt 28 v16) w fun v17_1 w =>
  kN P (callN (.func (.func 78) #[] #[]) #[v17_1, (.int .i64 32), (.int .i64 9)]) w fun v18_2 w =>
  kN P (callN (.func (.func 78) #[] #[]) #[v20_2, (.int .i64 48), (.int .i64 12)]) w fun v21_2 w =>
  pV P (Instr.build 113 #[(0, v15), (1, v18_2), (2, v21_2)]) fun v22_2 =>
  kU P (Instr.storeAt 113 v2 v22_2) w fun _ w =>
  retV P 113 v2 w fun r4 =>
  K (.tuple #[r4, (s0.getD 1 undef)]) w)) ∧
  (kV P (Instr.loadAt 28 v16) w fun v17_2 w =>
  (kV P (Instr.loadAt 47 (s0.getD 0 undef)) w fun v15_1 w =>
  (kN P (callN (.func (.func 78) #[] #[]) #[v17_2, (.int .i64 32), (.int .i64 9)]) w fun v18_3 w =>
  kV P (Instr.loadAt 28 v19) w fun v20_3 w =>
  kN P (callN (.func (.func 78) #[] #[]) #[v20_3, (.int .i64 48), (.int .i64 12)]) w fun v21_3 w =>
  pV P (Instr.build 113 #[(0, v15_1), (1, v18_3), (2, v21_3)]) fun v22_3 =>
  kU P (Instr.storeAt 113 v2 v22_3) w fun _ w =>
  retV P 113 v2 w fun r5 =>
  K (.tuple #[r5, (s0.getD 1 undef)]) w) ∧
  (kV P (Instr.loadAt 28 v19) w fun v20_4 w =>
  kN P (callN (.func (.func 78) #[] #[]) #[v17_2, (.int .i64 32), (.int .i64 9)]) w fun v18_4 w =>
  kN P (callN (.func (.func 78) #[] #[]) #[v20_4, (.int .i64 48), (.int .i64 12)]) w fun v21_4 w =>
  pV P (Instr.build 113 #[(0, v15_1), (1, v18_4), (2, v21_4)]) fun v22_4 =>
  kU P (Instr.storeAt 113 v2 v22_4) w fun _ w =>
  retV P 113 v2 w fun r6 =>
  K (.tuple #[r6, (s0.getD 1 undef)]) w)) ∧
  (kN P (callN (.func (.func 78) #[] #[]) #[v17_2, (.int .i64 32), (.int .i64 9)]) w fun v18_5 w =>
  (kV P (Instr.loadAt 47 (s0.getD 0 undef)) w fun v15_2 w =>
  kV P (Instr.loadAt 28 v19) w fun v20_5 w =>
  kN P (callN (.func (.func 78) #[] #[]) #[v20_5, (.int .i64 48), (.int .i64 12)]) w fun v21_5 w =>
  pV P (Instr.build 113 #[(0, v15_2), (1, v18_5), (2, v21_5)]) fun v22_5 =>
  kU P (Instr.storeAt 113 v2 v22_5) w fun _ w =>
  retV P 113 v2 w fun r7 =>
  K (.tuple #[r7, (s0.getD 1 undef)]) w) ∧
  (kV P (Instr.loadAt 28 v19) w fun v20_6 w =>
  (kV P (Instr.loadAt 47 (s0.getD 0 undef)) w fun v15_3 w =>
  kN P (callN (.func (.func 78) #[] #[]) #[v20_6, (.int .i64 48), (.int .i64 12)]) w fun v21_6 w =>
  pV P (Instr.build 113 #[(0, v15_3), (1, v18_5), (2, v21_6)]) fun v22_6 =>
  kU P (Instr.storeAt 113 v2 v22_6) w fun _ w =>
  retV P 113 v2 w fun r8 =>
  K (.tuple #[r8, (s0.getD 1 undef)]) w) ∧
  (kN P (callN (.func (.func 78) #[] #[]) #[v20_6, (.int .i64 48), (.int .i64 12)]) w fun v21_7 w =>
  kV P (Instr.loadAt 47 (s0.getD 0 undef)) w fun v15_4 w =>
  pV P (Instr.build 113 #[(0, v15_4), (1, v18_5), (2, v21_7)]) fun v22_7 =>
  kU P (Instr.storeAt 113 v2 v22_7) w fun _ w =>
  retV P 113 v2 w fun r9 =>
  K (.tuple #[r9, (s0.getD 1 undef)]) w))) ∧
  (kV P (Instr.loadAt 28 v19) w fun v20_7 w =>
  (kV P (Instr.loadAt 47 (s0.getD 0 undef)) w fun v15_5 w =>
  kN P (callN (.func (.func 78) #[] #[]) #[v17_2, (.int .i64 32), (.int .i64 9)]) w fun v18_6 w =>
  kN P (callN (.func (.func 78) #[] #[]) #[v20_7, (.int .i64 48), (.int .i64 12)]) w fun v21_8 w =>
  pV P (Instr.build 113 #[(0, v15_5), (1, v18_6), (2, v21_8)]) fun v22_8 =>
  kU P (Instr.storeAt 113 v2 v22_8) w fun _ w =>
  retV P 113 v2 w fun r10 =>
  K (.tuple #[r10, (s0.getD 1 undef)]) w) ∧
  (kN P (callN (.func (.func 78) #[] #[]) #[v17_2, (.int .i64 32), (.int .i64 9)]) w fun v18_7 w =>
  (kV P (Instr.loadAt 47 (s0.getD 0 undef)) w fun v15_6 w =>
  kN P (callN (.func (.func 78) #[] #[]) #[v20_7, (.int .i64 48), (.int .i64 12)]) w fun v21_9 w =>
  pV P (Instr.build 113 #[(0, v15_6), (1, v18_7), (2, v21_9)]) fun v22_9 =>
  kU P (Instr.storeAt 113 v2 v22_9) w fun _ w =>
  retV P 113 v2 w fun r11 =>
  K (.tuple #[r11, (s0.getD 1 undef)]) w) ∧
  (kN P (callN (.func (.func 78) #[] #[]) #[v20_7, (.int .i64 48), (.int .i64 12)]) w fun v21_10 w =>
  kV P (Instr.loadAt 47 (s0.getD 0 undef)) w fun v15_7 w =>
  pV P (Instr.build 113 #[(0, v15_7), (1, v18_7), (2, v21_10)]) fun v22_10 =>
  kU P (Instr.storeAt 113 v2 v22_10) w fun _ w =>
  retV P 113 v2 w fun r12 =>
  K (.tuple #[r12, (s0.getD 1 undef)]) w)))) ∧
  (kV P (Instr.loadAt 28 v19) w fun v20_8 w =>
  (kV P (Instr.loadAt 47 (s0.getD 0 undef)) w fun v15_8 w =>
  kV P (Instr.loadAt 28 v16) w fun v17_3 w =>
  kN P (callN (.func (.func 78) #[] #[]) #[v17_3, (.int .i64 32), (.int .i64 9)]) w fun v18_8 w =>
  kN P (callN (.func (.func 78) #[] #[]) #[v20_8, (.int .i64 48), (.int .i64 12)]) w fun v21_11 w =>
  pV P (Instr.build 113 #[(0, v15_8), (1, v18_8), (2, v21_11)]) fun v22_11 =>
  kU P (Instr.storeAt 113 v2 v22_11) w fun _ w =>
  retV P 113 v2 w fun r13 =>
  K (.tuple #[r13, (s0.getD 1 undef)]) w) ∧
  (kV P (Instr.loadAt 28 v16) w fun v17_4 w =>
  (kV P (Instr.loadAt 47 (s0.getD 0 undef)) w fun v15_9 w =>
  kN P (callN (.func (.func 78) #[] #[]) #[v17_4, (.int .i64 32), (.int .i64 9)]) w fun v18_9 w =>
  kN P (callN (.func (.func 78) #[] #[]) #[v20_8, (.int .i64 48), (.int .i64 12)]) w fun v21_12 w =>
  pV P (Instr.build 113 #[(0, v15_9), (1, v18_9), (2, v21_12)]) fun v22_12 =>
  kU P (Instr.storeAt 113 v2 v22_12) w fun _ w =>
  retV P 113 v2 w fun r14 =>
  K (.tuple #[r14, (s0.getD 1 undef)]) w) ∧
  (kN P (callN (.func (.func 78) #[] #[]) #[v17_4, (.int .i64 32), (.int .i64 9)]) w fun v18_10 w =>
  (kV P (Instr.loadAt 47 (s0.getD 0 undef)) w fun v15_10 w =>
  kN P (callN (.func (.func 78) #[] #[]) #[v20_8, (.int .i64 48), (.int .i64 12)]) w fun v21_13 w =>
  pV P (Instr.build 113 #[(0, v15_10), (1, v18_10), (2, v21_13)]) fun v22_13 =>
  kU P (Instr.storeAt 113 v2 v22_13) w fun _ w =>
  retV P 113 v2 w fun r15 =>
  K (.tuple #[r15, (s0.getD 1 undef)]) w) ∧
  (kN P (callN (.func (.func 78) #[] #[]) #[v20_8, (.int .i64 48), (.int .i64 12)]) w fun v21_14 w =>
  kV P (Instr.loadAt 47 (s0.getD 0 undef)) w fun v15_11 w =>
  pV P (Instr.build 113 #[(0, v15_11), (1, v18_10), (2, v21_14)]) fun v22_14 =>
  kU P (Instr.storeAt 113 v2 v22_14) w fun _ w =>
  retV P 113 v2 w fun r16 =>
  K (.tuple #[r16, (s0.getD 1 undef)]) w))))) w
theorem F56_eq (P : Program) (t0 : Value) (w : World) (K : Value → World → Prop) : funE P ⟨[(1, 999), (2, 999)], [], [(2, [4, 5])]⟩ Try.f56 [t0] w K = F56 P t0 w K := by kernel_rfl
theorem F56_ok (t0 : Value) (w : World) (K : Value → World → Prop) (h : F56 Try.prog t0 w K) : callsK Try.prog 56 #[t0] w K := calls_of_eq mixedC Try.func56 (F56_eq _ t0 w K) h

/-- mintmark/algebra.Base -/
def F57 (P : Program) (t0 : Value) (w : World) (K : Value → World → Prop) : Prop :=
  kV P (Instr.box 33 t0) w fun v1 w =>
  kV P (Instr.loadAt 33 v1) w fun v3 w =>
  kN P (callN (.func (.func 79) #[] #[]) #[v3, (.func (.func 80) #[] #[])]) w fun v4 w =>
  K v4 w
theorem F57_eq (P : Program) (t0 : Value) (w : World) (K : Value → World → Prop) : funE P ⟨[], [], []⟩ Try.f57 [t0] w K = F57 P t0 w K := by kernel_rfl
theorem F57_ok (t0 : Value) (w : World) (K : Value → World → Prop) (h : F57 Try.prog t0 w K) : callsK Try.prog 57 #[t0] w K := calls_of_eq mixedC Try.func57 (F57_eq _ t0 w K) h

/-- mintmark/algebra.Top -/
def F58 (P : Program) (t0 : Value) (w : World) (K : Value → World → Prop) : Prop :=
  kV P (Instr.box 33 t0) w fun v1 w =>
  kV P (Instr.loadAt 33 v1) w fun v3 w =>
  kN P (callN (.func (.func 79) #[] #[]) #[v3, (.func (.func 81) #[] #[])]) w fun v4 w =>
  K v4 w
theorem F58_eq (P : Program) (t0 : Value) (w : World) (K : Value → World → Prop) : funE P ⟨[], [], []⟩ Try.f58 [t0] w K = F58 P t0 w K := by kernel_rfl
theorem F58_ok (t0 : Value) (w : World) (K : Value → World → Prop) (h : F58 Try.prog t0 w K) : callsK Try.prog 58 #[t0] w K := calls_of_eq mixedC Try.func58 (F58_eq _ t0 w K) h

/-- mintmark/perm.Text -/
def F59 (P : Program) (t0 : Value) (w : World) (K : Value → World → Prop) : Prop :=
  loopT (fun R0 s0 w => ∀ _ : Nat → Value,
  kV P (binV .lss 3 (.tmp 5) (.const (.int .i64 9)) (s0.getD 1 undef) (.int .i64 9)) w fun v6 w =>
  condK v6
  (joinL (fun J2 =>
  kV P (binV .shr 28 (.tmp 8) (.tmp 9) t0 (s0.getD 1 undef)) w fun v10 w =>
  kV P (binV .and 28 (.tmp 10) (.const (.int .u64 1)) v10 (.int .u64 1)) w fun v11 w =>
  kV P (binV .neq 28 (.tmp 11) (.const (.int .u64 0)) v11 (.int .u64 0)) w fun v12 w =>
  condK v12
  (kV P (Instr.index 9 (.string ⟨#[114, 119, 120, 82, 87, 115, 117, 83, 103]⟩) (s0.getD 1 undef)) w fun v15 w =>
  kV P (Instr.buildSlice 60 1 #[(0, v15)]) w fun v16 w =>
  kV P (Builtin.append_ #[60, 60] 60 #[(s0.getD 0 undef), v16]) w fun v17 w =>
  J2 [v17] w)
  (J2 [(s0.getD 0 undef)] w)) fun s2 w => ∀ _ : Nat → Value,
  kV P (binV .add 3 (.tmp 5) (.const (.int .i64 1)) (s0.getD 1 undef) (.int .i64 1)) w fun v18 w =>
  R0 [(s2.getD 0 undef), v18] w)
  (joinL (fun J4 =>
  kV P (binV .gtr 28 (.tmp 19) (.const (.int .u64 511)) t0 (.int .u64 511)) w fun v20 w =>
  condK v20
  (kV P (Instr.buildSlice 60 1 #[(0, (.int .u8 43))]) w fun v22 w =>
  kV P (Builtin.append_ #[60, 60] 60 #[(s0.getD 0 undef), v22]) w fun v23 w =>
  J4 [v23] w)
  (J4 [(s0.getD 0 undef)] w)) fun s4 w => ∀ _ : Nat → Value,
  kV P (convert 60 9 (s4.getD 0 undef)) w fun v25 w =>
  K v25 w)) [(.slice none 0 0), (.int .i64 0)] w
theorem F59_eq (P : Program) (t0 : Value) (w : World) (K : Value → World → Prop) : funE P ⟨[], [(3, [3, 5])], [(10, [3]), (7, [3])]⟩ Try.f59 [t0] w K = F59 P t0 w K := by kernel_rfl
theorem F59_ok (t0 : Value) (w : World) (K : Value → World → Prop) (h : F59 Try.prog t0 w K) : callsK Try.prog 59 #[t0] w K := calls_of_eq mixedC Try.func59 (F59_eq _ t0 w K) h

/-- mintmark/script.Steps$1 -/
def F60 (P : Program) (t0 t1 : Value) (w : World) (K : Value → World → Prop) : Prop :=
  kV P (Instr.loadAt 60 t1) w fun v5 w =>
  loopT (fun R0 s0 w => ∀ _ : Nat → Value,
  kV P (Builtin.len_ #[60] 3 #[(s0.getD 0 undef)]) w fun v7 w =>
  kV P (binV .geq 3 (.tmp 7) (.const (.int .i64 3)) v7 (.int .i64 3)) w fun v8 w =>
  condK v8
  (joinL (fun J2 =>
  drewK (fun w =>
  pV P (Instr.indexAt 60 (s0.getD 0 undef) (.int .i64 0)) fun v12 =>
  pV P (Instr.indexAt 60 (s0.getD 0 undef) (.int .i64 1)) fun v16 =>
  pV P (Instr.indexAt 60 (s0.getD 0 undef) (.int .i64 2)) fun v20 =>
  (kV P (Instr.loadAt 5 v12) w fun v13 w =>
  pV P (convert 5 3 v13) fun v14 =>
  (kV P (Instr.loadAt 5 v16) w fun v17 w =>
  pV P (convert 5 3 v17) fun v18 =>
  (kV P (Instr.loadAt 5 v20) w fun v21 w =>
  pV P (convert 5 3 v21) fun v22 =>
  pV P (Instr.build 84 #[(0, v14), (1, v18), (2, v22)]) fun v23 =>
  kV P (Instr.alloc 84 true (.tuple #[])) w fun v4 w =>
  kU P (Instr.storeAt 84 v4 v23) w fun _ w =>
  J2 [v4] w) ∧
  (kV P (Instr.alloc 84 true (.tuple #[])) w fun v4_1 w =>
  kV P (Instr.loadAt 5 v20) w fun v21_1 w =>
  pV P (convert 5 3 v21_1) fun v22_1 =>
  pV P (Instr.build 84 #[(0, v14), (1, v18), (2, v22_1)]) fun v23_1 =>
  kU P (Instr.storeAt 84 v4_1 v23_1) w fun _ w =>
  J2 [v4_1] w)) ∧
  (kV P (Instr.loadAt 5 v20) w fun v21_2 w =>
  pV P (convert 5 3 v21_2) fun v22_2 =>
  (kV P (Instr.loadAt 5 v16) w fun v17_1 w =>
  pV P (convert 5 3 v17_1) fun v18_1 =>
  pV P (Instr.build 84 #[(0, v14), (1, v18_1), (2, v22_2)]) fun v23_2 =>
  kV P (Instr.alloc 84 true (.tuple #[])) w fun v4_2 w =>
  kU P (Instr.storeAt 84 v4_2 v23_2) w fun _ w =>
  J2 [v4_2] w) ∧
  (kV P (Instr.alloc 84 true (.tuple #[])) w fun v4_3 w =>
  kV P (Instr.loadAt 5 v16) w fun v17_2 w =>
  pV P (convert 5 3 v17_2) fun v18_2 =>
  pV P (Instr.build 84 #[(0, v14), (1, v18_2), (2, v22_2)]) fun v23_3 =>
  kU P (Instr.storeAt 84 v4_3 v23_3) w fun _ w =>
  J2 [v4_3] w)) ∧
  (kV P (Instr.alloc 84 true (.tuple #[])) w fun v4_4 w =>
  (kV P (Instr.loadAt 5 v16) w fun v17_3 w =>
  pV P (convert 5 3 v17_3) fun v18_3 =>
  kV P (Instr.loadAt 5 v20) w fun v21_3 w =>
  pV P (convert 5 3 v21_3) fun v22_3 =>
  pV P (Instr.build 84 #[(0, v14), (1, v18_3), (2, v22_3)]) fun v23_4 =>
  kU P (Instr.storeAt 84 v4_4 v23_4) w fun _ w =>
  J2 [v4_4] w) ∧
  (kV P (Instr.loadAt 5 v20) w fun v21_4 w =>
  pV P (convert 5 3 v21_4) fun v22_4 =>
  kV P (Instr.loadAt 5 v16) w fun v17_4 w =>
  pV P (convert 5 3 v17_4) fun v18_4 =>
  pV P (Instr.build 84 #[(0, v14), (1, v18_4), (2, v22_4)]) fun v23_5 =>
  kU P (Instr.storeAt 84 v4_4 v23_5) w fun _ w =>
  J2 [v4_4] w))) ∧
  (kV P (Instr.loadAt 5 v16) w fun v17_5 w =>
  pV P (convert 5 3 v17_5) fun v18_5 =>
  (kV P (Instr.loadAt 5 v12) w fun v13_1 w =>
  pV P (convert 5 3 v13_1) fun v14_1 =>
  (kV P (Instr.loadAt 5 v20) w fun v21_5 w =>
  pV P (convert 5 3 v21_5) fun v22_5 =>
  pV P (Instr.build 84 #[(0, v14_1), (1, v18_5), (2, v22_5)]) fun v23_6 =>
  kV P (Instr.alloc 84 true (.tuple #[])) w fun v4_5 w =>
  kU P (Instr.storeAt 84 v4_5 v23_6) w fun _ w =>
  J2 [v4_5] w) ∧
  (kV P (Instr.alloc 84 true (.tuple #[])) w fun v4_6 w =>
  kV P (Instr.loadAt 5 v20) w fun v21_6 w =>
  pV P (convert 5 3 v21_6) fun v22_6 =>
  pV P (Instr.build 84 #[(0, v14_1), (1, v18_5), (2, v22_6)]) fun v23_7 =>
  kU P (Instr.storeAt 84 v4_6 v23_7) w fun _ w =>
  J2 [v4_6] w)) ∧
  (kV P (Instr.loadAt 5 v20) w fun v21_7 w =>
  pV P (convert 5 3 v21_7) fun v22_7 =>
  (kV P (Instr.loadAt 5 v12) w fun v13_2 w =>
  pV P (convert 5 3 v13_2) fun v14_2 =>
  pV P (Instr.build 84 #[(0, v14_2), (1, v18_5), (2, v22_7)]) fun v23_8 =>
  kV P (Instr.alloc 84 true (.tuple #[])) w fun v4_7 w =>
  kU P (Instr.storeAt 84 v4_7 v23_8) w fun _ w =>
  J2 [v4_7] w) ∧
  (kV P (Instr.alloc 84 true (.tuple #[])) w fun v4_8 w =>
  kV P (Instr.loadAt 5 v12) w fun v13_3 w =>
  pV P (convert 5 3 v13_3) fun v14_3 =>
  pV P (Instr.build 84 #[(0, v14_3), (1, v18_5), (2, v22_7)]) fun v23_9 =>
  kU P (Instr.storeAt 84 v4_8 v23_9) w fun _ w =>
  J2 [v4_8] w)) ∧
  (kV P (Instr.alloc 84 true (.tuple #[])) w fun v4_9 w =>
  (kV P (Instr.loadAt 5 v12) w fun v13_4 w =>
  pV P (convert 5 3 v13_4) fun v14_4 =>
  kV P (Instr.loadAt 5 v20) w fun v21_8 w =>
  pV P (convert 5 3 v21_8) fun v22_8 =>
  pV P (Instr.build 84 #[(0, v14_4), (1, v18_5), (2, v22_8)]) fun v23_10 =>
  kU P (Instr.storeAt 84 v4_9 v23_10) w fun _ w =>
  J2 [v4_9] w) ∧
  (kV P (Instr.loadAt 5 v20) w fun v21_9 w =>
  pV P (convert 5 3 v21_9) fun v22_9 =>
  kV P (Instr.loadAt 5 v12) w fun v13_5 w =>
  pV P (convert 5 3 v13_5) fun v14_5 =>
  pV P (Instr.build 84 #[(0, v14_5), (1, v18_5), (2, v22_9)]) fun v23_11 =>
  kU P (Instr.storeAt 84 v4_9 v23_11) w fun _ w =>
  J2 [v4_9] w))) ∧
  (kV P (Instr.loadAt 5 v20) w fun v21_10 w =>
  pV P (convert 5 3 v21_10) fun v22_10 =>
  (kV P (Instr.loadAt 5 v12) w fun v13_6 w =>
  pV P (convert 5 3 v13_6) fun v14_6 =>
  (kV P (Instr.loadAt 5 v16) w fun v17_6 w =>
  pV P (convert 5 3 v17_6) fun v18_6 =>
  pV P (Instr.build 84 #[(0, v14_6), (1, v18_6), (2, v22_10)]) fun v23_12 =>
  kV P (Instr.alloc 84 true (.tuple #[])) w fun v4_10 w =>
  kU P (Instr.storeAt 84 v4_10 v23_12) w fun _ w =>
  J2 [v4_10] w) ∧
  (kV P (Instr.alloc 84 true (.tuple #[])) w fun v4_11 w =>
  kV P (Instr.loadAt 5 v16) w fun v17_7 w =>
  pV P (convert 5 3 v17_7) fun v18_7 =>
  pV P (Instr.build 84 #[(0, v14_6), (1, v18_7), (2, v22_10)]) fun v23_13 =>
  kU P (Instr.storeAt 84 v4_11 v23_13) w fun _ w =>
  J2 [v4_11] w)) ∧
  (kV P (Instr.loadAt 5 v16) w fun v17_8 w =>
  pV P (convert 5 3 v17_8) fun v18_8 =>
  (kV P (Instr.loadAt 5 v12) w fun v13_7 w =>
  pV P (convert 5 3 v13_7) fun v14_7 =>
  pV P (Instr.build 84 #[(0, v14_7), (1, v18_8), (2, v22_10)]) fun v23_14 =>
  kV P (Instr.alloc 84 true (.tuple #[])) w fun v4_12 w =>
  kU P (Instr.storeAt 84 v4_12 v23_14) w fun _ w =>
  J2 [v4_12] w) ∧
  (kV P (Instr.alloc 84 true (.tuple #[])) w fun v4_13 w =>
  kV P (Instr.loadAt 5 v12) w fun v13_8 w =>
  pV P (convert 5 3 v13_8) fun v14_8 =>
  pV P (Instr.build 84 #[(0, v14_8), (1, v18_8), (2, v22_10)]) fun v23_15 =>
  kU P (Instr.storeAt 84 v4_13 v23_15) w fun _ w =>
  J2 [v4_13] w)) ∧
  (kV P (Instr.alloc 84 true (.tuple #[])) w fun v4_14 w =>
  (kV P (Instr.loadAt 5 v12) w fun v13_9 w =>
  pV P (convert 5 3 v13_9) fun v14_9 =>
  kV P (Instr.loadAt 5 v16) w fun v17_9 w =>
  pV P (convert 5 3 v17_9) fun v18_9 =>
  pV P (Instr.build 84 #[(0, v14_9), (1, v18_9), (2, v22_10)]) fun v23_16 =>
  kU P (Instr.storeAt 84 v4_14 v23_16) w fun _ w =>
  J2 [v4_14] w) ∧
  (kV P (Instr.loadAt 5 v16) w fun v17_10 w =>
  pV P (convert 5 3 v17_10) fun v18_10 =>
  kV P (Instr.loadAt 5 v12) w fun v13_10 w =>
  pV P (convert 5 3 v13_10) fun v14_10 =>
  pV P (Instr.build 84 #[(0, v14_10), (1, v18_10), (2, v22_10)]) fun v23_17 =>
  kU P (Instr.storeAt 84 v4_14 v23_17) w fun _ w =>
  J2 [v4_14] w))) ∧
  (kV P (Instr.alloc 84 true (.tuple #[])) w fun v4_15 w =>
  (kV P (Instr.loadAt 5 v12) w fun v13_11 w =>
  pV P (convert 5 3 v13_11) fun v14_11 =>
  (kV P (Instr.loadAt 5 v16) w fun v17_11 w =>
  pV P (convert 5 3 v17_11) fun v18_11 =>
  kV P (Instr.loadAt 5 v20) w fun v21_11 w =>
  pV P (convert 5 3 v21_11) fun v22_11 =>
  pV P (Instr.build 84 #[(0, v14_11), (1, v18_11), (2, v22_11)]) fun v23_18 =>
  kU P (Instr.storeAt 84 v4_15 v23_18) w fun _ w =>
  J2 [v4_15] w) ∧
  (kV P (Instr.loadAt 5 v20) w fun v21_12 w =>
  pV P (convert 5 3 v21_12) fun v22_12 =>
  kV P (Instr.loadAt 5 v16) w fun v17_12 w =>
  pV P (convert 5 3 v17_12) fun v18_12 =>
  pV P (Instr.build 84 #[(0, v14_11), (1, v18_12), (2, v22_12)]) fun v23_19 =>
  kU P (Instr.storeAt 84 v4_15 v23_19) w fun _ w =>
  J2 [v4_15] w)) ∧
  (kV P (Instr.loadAt 5 v16) w fun v17_13 w =>
  pV P (convert 5 3 v17_13) fun v18_13 =>
  (kV P (Instr.loadAt 5 v12) w fun v13_12 w =>
  pV P (convert 5 3 v13_12) fun v14_12 =>
  kV P (Instr.loadAt 5 v20) w fun v21_13 w =>
  pV P (convert 5 3 v21_13) fun v22_13 =>
  pV P (Instr.build 84 #[(0, v14_12), (1, v18_13), (2, v22_13)]) fun v23_20 =>
  kU P (Instr.storeAt 84 v4_15 v23_20) w fun _ w =>
  J2 [v4_15] w) ∧
  (kV P (Instr.loadAt 5 v20) w fun v21_14 w =>
  pV P (convert 5 3 v21_14) fun v22_14 =>
  kV P (Instr.loadAt 5 v12) w fun v13_13 w =>
  pV P (convert 5 3 v13_13) fun v14_13 =>
  pV P (Instr.build 84 #[(0, v14_13), (1, v18_13), (2, v22_14)]) fun v23_21 =>
  kU P (Instr.storeAt 84 v4_15 v23_21) w fun _ w =>
  J2 [v4_15] w)) ∧
  (kV P (Instr.loadAt 5 v20) w fun v21_15 w =>
  pV P (convert 5 3 v21_15) fun v22_15 =>
  (kV P (Instr.loadAt 5 v12) w fun v13_14 w =>
  pV P (convert 5 3 v13_14) fun v14_14 =>
  kV P (Instr.loadAt 5 v16) w fun v17_14 w =>
  pV P (convert 5 3 v17_14) fun v18_14 =>
  pV P (Instr.build 84 #[(0, v14_14), (1, v18_14), (2, v22_15)]) fun v23_22 =>
  kU P (Instr.storeAt 84 v4_15 v23_22) w fun _ w =>
  J2 [v4_15] w) ∧
  (kV P (Instr.loadAt 5 v16) w fun v17_15 w =>
  pV P (convert 5 3 v17_15) fun v18_15 =>
  kV P (Instr.loadAt 5 v12) w fun v13_15 w =>
  pV P (convert 5 3 v13_15) fun v14_15 =>
  pV P (Instr.build 84 #[(0, v14_15), (1, v18_15), (2, v22_15)]) fun v23_23 =>
  kU P (Instr.storeAt 84 v4_15 v23_23) w fun _ w =>
  J2 [v4_15] w)))) w) fun s2 w => ∀ _ : Nat → Value,
  joinL (fun J4 =>
  kV P (Instr.fieldAt 84 (s2.getD 0 undef) 0) w fun v24 w =>
  kV P (Instr.loadAt 3 v24) w fun v25 w =>
  kV P (binV .gtr 3 (.tmp 25) (.const (.int .i64 9)) v25 (.int .i64 9)) w fun v26 w =>
  condK v26
  (kV P (Instr.fieldAt 84 (s2.getD 0 undef) 0) w fun v27 w =>
  kU P (Instr.storeAt 3 v27 (.int .i64 0)) w fun _ w =>
  J4 [] w)
  (J4 [] w)) fun s4 w => ∀ _ : Nat → Value,
  kV P (Instr.loadAt 84 (s2.getD 0 undef)) w fun v29 w =>
  kN P (callN t0 #[v29]) w fun v30 w =>
  kV P (Op.unary .not v30) w fun v31 w =>
  condK v31
  (K (.tuple #[]) w)
  (kV P (Instr.sliceAt 60 (s0.getD 0 undef) (some (.int .i64 3)) none none) w fun v10 w =>
  R0 [v10] w))
  (K (.tuple #[]) w)) [v5] w
theorem F60_eq (P : Program) (t0 t1 : Value) (w : World) (K : Value → World → Prop) : funE P ⟨[(3, 999)], [(1, [3])], [(4, [4]), (6, [])]⟩ Try.f60 [t0, t1] w K = F60 P t0 t1 w K := by kernel_rfl
theorem F60_ok (t0 t1 : Value) (w : World) (K : Value → World → Prop) (h : F60 Try.prog t0 t1 w K) : callsK Try.prog 60 #[t0, t1] w K := calls_of_eq mixedC Try.func60 (F60_eq _ t0 t1 w K) h

/-- mintmark/mintmarkref03.Decode -/
def F73 (P : Program) (t0 t1 : Value) (w : World) (K : Value → World → Prop) : Prop :=
  kV P (Instr.box 127 t0) w fun v2 w =>
  kV P (Instr.alloc 102 true (.tuple #[])) w fun v4 w =>
  kV P (Instr.fieldAt 127 v2 0) w fun v11 w =>
  kV P (Instr.loadAt 28 v11) w fun v12 w =>
  kV P (binV .geq 28 (.tmp 12) (.const (.int .u64 16384)) v12 (.int .u64 16384)) w fun v13 w =>
  joinK (fun J0 : Value → World → Prop => gdK (yb v13) false (fun k => kV P (Instr.fieldAt 127 v2 1) w k) w fun v15 w =>
  gdK (yb v13) false (fun k => kV P (Instr.loadAt 28 v15) w k) w fun v16 w =>
  gdK (yb v13) false (fun k => kV P (binV .geq 28 (.tmp 16) (.const (.int .u64 4096)) v16 (.int .u64 4096)) w k) w fun v17 w =>
  kN P (pickN v13 (.bool true) v17) w fun v18_1 w =>
  J0 v18_1 w) fun v18 w =>
  joinK (fun J1 : Value → World → Prop => gdK (yb v18) false (fun k => kV P (Instr.fieldAt 127 v2 2) w k) w fun v20 w =>
  gdK (yb v18) false (fun k => kV P (Instr.loadAt 28 v20) w k) w fun v21 w =>
  gdK (yb v18) false (fun k => kV P (binV .gtr 28 (.tmp 21) (.const (.int .u64 37)) v21 (.int .u64 37)) w k) w fun v22 w =>
  kN P (pickN v18 (.bool true) v22) w fun v23_1 w =>
  J1 v23_1 w) fun v23 w =>
  joinK (fun J2 : Value → World → Prop => gdK (yb v23) false (fun k => k t1 w) w fun v25 w =>
  gdK (yb v23) false (fun k => kV P (binV .geq 28 (.tmp 25) (.const (.int .u64 281474976710656)) v25 (.int .u64 281474976710656)) w k) w fun v26 w =>
  kN P (pickN v23 (.bool true) v26) w fun v27_1 w =>
  J2 v27_1 w) fun v27 w =>
  condK v27
  (kV P (Instr.build 102 #[]) w fun v28 w =>
  kU P (Instr.storeAt 102 v4 v28) w fun _ w =>
  retV P 102 v4 w fun r3 =>
  K (.tuple #[r3, (.bool false)]) w)
  (kV P (Instr.fieldAt 127 v2 2) w fun v29 w =>
  kV P (Instr.loadAt 28 v29) w fun v30 w =>
  kN P (callN (.func (.func 88) #[] #[]) #[v30]) w fun v31 w =>
  kV P (Instr.fieldAt 127 v2 1) w fun v32 w =>
  kV P (Instr.loadAt 28 v32) w fun v33 w =>
  kV P (binV .add 28 (.tmp 33) (.const (.int .u64 16384)) v33 (.int .u64 16384)) w fun v34 w =>
  kV P (Instr.fieldAt 127 v2 0) w fun v35 w =>
  kV P (Instr.loadAt 28 v35) w fun v36 w =>
  kV P (binV .sub 28 (.tmp 34) (.tmp 36) v34 v36) w fun v37 w =>
  kV P (binV .rem 28 (.tmp 37) (.const (.int .u64 4096)) v37 (.int .u64 4096)) w fun v38 w =>
  joinL (fun J4 =>
  kV P (Instr.fieldAt 127 v2 2) w fun v39 w =>
  kV P (Instr.loadAt 28 v39) w fun v40 w =>
  kV P (binV .gtr 28 (.tmp 40) (.const (.int .u64 0)) v40 (.int .u64 0)) w fun v41 w =>
  condK v41
  (kV P (binV .add 28 (.tmp 42) (.const (.int .u64 4096)) v38 (.int .u64 4096)) w fun v43 w =>
  J4 [v43] w)
  (J4 [v38] w)) fun s4 w => ∀ _ : Nat → Value,
  kV P (binV .shr 28 (.tmp 44) (.tmp 45) t1 v31) w fun v46 w =>
  kV P (binV .add 28 (.tmp 47) (.const (.int .u64 16384)) v46 (.int .u64 16384)) w fun v48 w =>
  kV P (Instr.fieldAt 127 v2 0) w fun v49 w =>
  kV P (Instr.loadAt 28 v49) w fun v50 w =>
  kV P (binV .sub 28 (.tmp 48) (.tmp 50) v48 v50) w fun v51 w =>
  kV P (binV .add 28 (.tmp 51) (.const (.int .u64 4096)) v51 (.int .u64 4096)) w fun v52 w =>
  kV P (binV .rem 28 (.tmp 52) (.const (.int .u64 16384)) v52 (.int .u64 16384)) w fun v53 w =>
  kV P (binV .add 28 (.tmp 54) (.const (.int .u64 4096)) v46 (.int .u64 4096)) w fun v55 w =>
  kV P (binV .lss 28 (.tmp 55) (.tmp 56) v55 v53) w fun v57 w =>
  condK v57
  (kV P (Instr.build 102 #[]) w fun v58 w =>
  kU P (Instr.storeAt 102 v4 v58) w fun _ w =>
  retV P 102 v4 w fun r6 =>
  K (.tuple #[r6, (.bool false)]) w)
  (kV P (binV .add 28 (.tmp 59) (.const (.int .u64 4096)) v46 (.int .u64 4096)) w fun v60 w =>
  kV P (binV .sub 28 (.tmp 60) (.tmp 61) v60 v53) w fun v62 w =>
  kV P (binV .add 28 (.tmp 63) (.tmp 64) v62 (s4.getD 0 undef)) w fun v65 w =>
  kV P (binV .shr 28 (.const (.int .u64 281474976710656)) (.tmp 66) (.int .u64 281474976710656) v31) w fun v67 w =>
  kV P (binV .gtr 28 (.tmp 65) (.tmp 67) v65 v67) w fun v68 w =>
  condK v68
  (kV P (Instr.build 102 #[]) w fun v69 w =>
  kU P (Instr.storeAt 102 v4 v69) w fun _ w =>
  retV P 102 v4 w fun r7 =>
  K (.tuple #[r7, (.bool false)]) w)
  (kV P (binV .shl 28 (.tmp 70) (.tmp 71) v62 v31) w fun v72 w =>
  kV P (binV .add 28 (.tmp 73) (.tmp 74) v62 (s4.getD 0 undef)) w fun v75 w =>
  kV P (binV .shl 28 (.tmp 75) (.tmp 76) v75 v31) w fun v77 w =>
  kV P (Instr.build 102 #[(0, v72), (1, v77)]) w fun v78 w =>
  kU P (Instr.storeAt 102 v4 v78) w fun _ w =>
  retV P 102 v4 w fun r8 =>
  K (.tuple #[r8, (.bool true)]) w)))
theorem F73_eq (P : Program) (t0 t1 : Value) (w : World) (K : Value → World → Prop) : funE P ⟨[], [], [(7, [7])]⟩ Try.f73 [t0, t1] w K = F73 P t0 t1 w K := by kernel_rfl
theorem F73_ok (t0 t1 : Value) (w : World) (K : Value → World → Prop) (h : F73 Try.prog t0 t1 w K) : callsK Try.prog 73 #[t0, t1] w K := calls_of_eq mixedC Try.func73 (F73_eq _ t0 t1 w K) h

/-- mintmark/mintmarkref05.fields -/
def F74 (P : Program) (t0 : Value) (w : World) (K : Value → World → Prop) : Prop :=
  kV P (Instr.alloc 127 true (.tuple #[])) w fun v2 w =>
  kV P (binV .rem 28 (.tmp 3) (.const (.int .u64 16384)) t0 (.int .u64 16384)) w fun v4 w =>
  kV P (binV .shr 28 (.tmp 5) (.const (.int .u64 14)) t0 (.int .u64 14)) w fun v6 w =>
  kV P (binV .rem 28 (.tmp 6) (.const (.int .u64 4096)) v6 (.int .u64 4096)) w fun v7 w =>
  kV P (binV .shr 28 (.tmp 8) (.const (.int .u64 26)) t0 (.int .u64 26)) w fun v9 w =>
  kV P (binV .rem 28 (.tmp 9) (.const (.int .u64 64)) v9 (.int .u64 64)) w fun v10 w =>
  kV P (Instr.build 127 #[(0, v4), (1, v7), (2, v10)]) w fun v11 w =>
  kU P (Instr.storeAt 127 v2 v11) w fun _ w =>
  retV P 127 v2 w fun r0 =>
  K r0 w
theorem F74_eq (P : Program) (t0 : Value) (w : World) (K : Value → World → Prop) : funE P ⟨[], [], []⟩ Try.f74 [t0] w K = F74 P t0 w K := by kernel_rfl
theorem F74_ok (t0 : Value) (w : World) (K : Value → World → Prop) (h : F74 Try.prog t0 w K) : callsK Try.prog 74 #[t0] w K := calls_of_eq mixedC Try.func74 (F74_eq _ t0 w K) h

/-- mintmark/inst.rows -/
def F75 (P : Program) (w : World) (K : Value → World → Prop) : Prop :=
  kV P (Instr.alloc 130 true (.tuple #[])) w fun v0 w =>
  kV P (Instr.build 109 #[(0, (.string ⟨#[108, 117, 105]⟩)), (1, (.int .u8 85)), (2, (.int .u64 55)), (3, (.int .u64 0)), (4, (.int .u64 0))]) w fun v1 w =>
  kV P (Instr.build 109 #[(0, (.string ⟨#[97, 117, 105, 112, 99]⟩)), (1, (.int .u8 85)), (2, (.int .u64 23)), (3, (.int .u64 0)), (4, (.int .u64 0))]) w fun v2 w =>
  kV P (Instr.build 109 #[(0, (.string ⟨#[106, 97, 108]⟩)), (1, (.int .u8 74)), (2, (.int .u64 111)), (3, (.int .u64 0)), (4, (.int .u64 0))]) w fun v3 w =>
  kV P (Instr.build 109 #[(0, (.string ⟨#[106, 97, 108, 114]⟩)), (1, (.int .u8 73)), (2, (.int .u64 103)), (3, (.int .u64 0)), (4, (.int .u64 0))]) w fun v4 w =>
  kV P (Instr.build 109 #[(0, (.string ⟨#[98, 101, 113]⟩)), (1, (.int .u8 66)), (2, (.int .u64 99)), (3, (.int .u64 0)), (4, (.int .u64 0))]) w fun v5 w =>
  kV P (Instr.build 109 #[(0, (.string ⟨#[98, 110, 101]⟩)), (1, (.int .u8 66)), (2, (.int .u64 99)), (3, (.int .u64 1)), (4, (.int .u64 0))]) w fun v6 w =>
  kV P (Instr.build 109 #[(0, (.string ⟨#[98, 108, 116]⟩)), (1, (.int .u8 66)), (2, (.int .u64 99)), (3, (.int .u64 4)), (4, (.int .u64 0))]) w fun v7 w =>
  kV P (Instr.build 109 #[(0, (.string ⟨#[98, 103, 101]⟩)), (1, (.int .u8 66)), (2, (.int .u64 99)), (3, (.int .u64 5)), (4, (.int .u64 0))]) w fun v8 w =>
  kV P (Instr.build 109 #[(0, (.string ⟨#[98, 108, 116, 117]⟩)), (1, (.int .u8 66)), (2, (.int .u64 99)), (3, (.int .u64 6)), (4, (.int .u64 0))]) w fun v9 w =>
  kV P (Instr.build 109 #[(0, (.string ⟨#[98, 103, 101, 117]⟩)), (1, (.int .u8 66)), (2, (.int .u64 99)), (3, (.int .u64 7)), (4, (.int .u64 0))]) w fun v10 w =>
  kV P (Instr.build 109 #[(0, (.string ⟨#[108, 98]⟩)), (1, (.int .u8 73)), (2, (.int .u64 3)), (3, (.int .u64 0)), (4, (.int .u64 0))]) w fun v11 w =>
  kV P (Instr.build 109 #[(0, (.string ⟨#[108, 104]⟩)), (1, (.int .u8 73)), (2, (.int .u64 3)), (3, (.int .u64 1)), (4, (.int .u64 0))]) w fun v12 w =>
  kV P (Instr.build 109 #[(0, (.string ⟨#[108, 119]⟩)), (1, (.int .u8 73)), (2, (.int .u64 3)), (3, (.int .u64 2)), (4, (.int .u64 0))]) w fun v13 w =>
  kV P (Instr.build 109 #[(0, (.string ⟨#[108, 100]⟩)), (1, (.int .u8 73)), (2, (.int .u64 3)), (3, (.int .u64 3)), (4, (.int .u64 0))]) w fun v14 w =>
  kV P (Instr.build 109 #[(0, (.string ⟨#[108, 98, 117]⟩)), (1, (.int .u8 73)), (2, (.int .u64 3)), (3, (.int .u64 4)), (4, (.int .u64 0))]) w fun v15 w =>
  kV P (Instr.build 109 #[(0, (.string ⟨#[108, 104, 117]⟩)), (1, (.int .u8 73)), (2, (.int .u64 3)), (3, (.int .u64 5)), (4, (.int .u64 0))]) w fun v16 w =>
  kV P (Instr.build 109 #[(0, (.string ⟨#[108, 119, 117]⟩)), (1, (.int .u8 73)), (2, (.int .u64 3)), (3, (.int .u64 6)), (4, (.int .u64 0))]) w fun v17 w =>
  kV P (Instr.build 109 #[(0, (.string ⟨#[115, 98]⟩)), (1, (.int .u8 83)), (2, (.int .u64 35)), (3, (.int .u64 0)), (4, (.int .u64 0))]) w fun v18 w =>
  kV P (Instr.build 109 #[(0, (.string ⟨#[115, 104]⟩)), (1, (.int .u8 83)), (2, (.int .u64 35)), (3, (.int .u64 1)), (4, (.int .u64 0))]) w fun v19 w =>
  kV P (Instr.build 109 #[(0, (.string ⟨#[115, 119]⟩)), (1, (.int .u8 83)), (2, (.int .u64 35)), (3, (.int .u64 2)), (4, (.int .u64 0))]) w fun v20 w =>
  kV P (Instr.build 109 #[(0, (.string ⟨#[115, 100]⟩)), (1, (.int .u8 83)), (2, (.int .u64 35)), (3, (.int .u64 3)), (4, (.int .u64 0))]) w fun v21 w =>
  kV P (Instr.build 109 #[(0, (.string ⟨#[97, 100, 100, 105]⟩)), (1, (.int .u8 73)), (2, (.int .u64 19)), (3, (.int .u64 0)), (4, (.int .u64 0))]) w fun v22 w =>
  kV P (Instr.build 109 #[(0, (.string ⟨#[115, 108, 116, 105]⟩)), (1, (.int .u8 73)), (2, (.int .u64 19)), (3, (.int .u64 2)), (4, (.int .u64 0))]) w fun v23 w =>
  kV P (Instr.build 109 #[(0, (.string ⟨#[115, 108, 116, 105, 117]⟩)), (1, (.int .u8 73)), (2, (.int .u64 19)), (3, (.int .u64 3)), (4, (.int .u64 0))]) w fun v24 w =>
  kV P (Instr.build 109 #[(0, (.string ⟨#[120, 111, 114, 105]⟩)), (1, (.int .u8 73)), (2, (.int .u64 19)), (3, (.int .u64 4)), (4, (.int .u64 0))]) w fun v25 w =>
  kV P (Instr.build 109 #[(0, (.string ⟨#[111, 114, 105]⟩)), (1, (.int .u8 73)), (2, (.int .u64 19)), (3, (.int .u64 6)), (4, (.int .u64 0))]) w fun v26 w =>
  kV P (Instr.build 109 #[(0, (.string ⟨#[97, 110, 100, 105]⟩)), (1, (.int .u8 73)), (2, (.int .u64 19)), (3, (.int .u64 7)), (4, (.int .u64 0))]) w fun v27 w =>
  kV P (Instr.build 109 #[(0, (.string ⟨#[115, 108, 108, 105]⟩)), (1, (.int .u8 72)), (2, (.int .u64 19)), (3, (.int .u64 1)), (4, (.int .u64 0))]) w fun v28 w =>
  kV P (Instr.build 109 #[(0, (.string ⟨#[115, 114, 108, 105]⟩)), (1, (.int .u8 72)), (2, (.int .u64 19)), (3, (.int .u64 5)), (4, (.int .u64 0))]) w fun v29 w =>
  kV P (Instr.build 109 #[(0, (.string ⟨#[115, 114, 97, 105]⟩)), (1, (.int .u8 72)), (2, (.int .u64 19)), (3, (.int .u64 5)), (4, (.int .u64 16))]) w fun v30 w =>
  kV P (Instr.build 109 #[(0, (.string ⟨#[97, 100, 100]⟩)), (1, (.int .u8 82)), (2, (.int .u64 51)), (3, (.int .u64 0)), (4, (.int .u64 0))]) w fun v31 w =>
  kV P (Instr.build 109 #[(0, (.string ⟨#[115, 117, 98]⟩)), (1, (.int .u8 82)), (2, (.int .u64 51)), (3, (.int .u64 0)), (4, (.int .u64 32))]) w fun v32 w =>
  kV P (Instr.build 109 #[(0, (.string ⟨#[115, 108, 108]⟩)), (1, (.int .u8 82)), (2, (.int .u64 51)), (3, (.int .u64 1)), (4, (.int .u64 0))]) w fun v33 w =>
  kV P (Instr.build 109 #[(0, (.string ⟨#[115, 108, 116]⟩)), (1, (.int .u8 82)), (2, (.int .u64 51)), (3, (.int .u64 2)), (4, (.int .u64 0))]) w fun v34 w =>
  kV P (Instr.build 109 #[(0, (.string ⟨#[115, 108, 116, 117]⟩)), (1, (.int .u8 82)), (2, (.int .u64 51)), (3, (.int .u64 3)), (4, (.int .u64 0))]) w fun v35 w =>
  kV P (Instr.build 109 #[(0, (.string ⟨#[120, 111, 114]⟩)), (1, (.int .u8 82)), (2, (.int .u64 51)), (3, (.int .u64 4)), (4, (.int .u64 0))]) w fun v36 w =>
  kV P (Instr.build 109 #[(0, (.string ⟨#[115, 114, 108]⟩)), (1, (.int .u8 82)), (2, (.int .u64 51)), (3, (.int .u64 5)), (4, (.int .u64 0))]) w fun v37 w =>
  kV P (Instr.build 109 #[(0, (.string ⟨#[115, 114, 97]⟩)), (1, (.int .u8 82)), (2, (.int .u64 51)), (3, (.int .u64 5)), (4, (.int .u64 32))]) w fun v38 w =>
  kV P (Instr.build 109 #[(0, (.string ⟨#[111, 114]⟩)), (1, (.int .u8 82)), (2, (.int .u64 51)), (3, (.int .u64 6)), (4, (.int .u64 0))]) w fun v39 w =>
  kV P (Instr.build 109 #[(0, (.string ⟨#[97, 110, 100]⟩)), (1, (.int .u8 82)), (2, (.int .u64 51)), (3, (.int .u64 7)), (4, (.int .u64 0))]) w fun v40 w =>
  kV P (Instr.build 109 #[(0, (.string ⟨#[101, 99, 97, 108, 108]⟩)), (1, (.int .u8 78)), (2, (.int .u64 115)), (3, (.int .u64 0)), (4, (.int .u64 0))]) w fun v41 w =>
  kV P (Instr.build 109 #[(0, (.string ⟨#[101, 98, 114, 101, 97, 107]⟩)), (1, (.int .u8 78)), (2, (.int .u64 115)), (3, (.int .u64 0)), (4, (.int .u64 1))]) w fun v42 w =>
  kV P (Instr.build 109 #[(0, (.string ⟨#[99, 108, 99]⟩)), (1, (.int .u8 73)), (2, (.int .u64 15)), (3, (.int .u64 2)), (4, (.int .u64 0))]) w fun v43 w =>
  kV P (Instr.build 109 #[(0, (.string ⟨#[99, 115, 99]⟩)), (1, (.int .u8 83)), (2, (.int .u64 35)), (3, (.int .u64 4)), (4, (.int .u64 0))]) w fun v44 w =>
  kV P (Instr.build 109 #[(0, (.string ⟨#[99, 115, 101, 116, 98, 111, 117, 110, 100, 115]⟩)), (1, (.int .u8 82)), (2, (.int .u64 91)), (3, (.int .u64 0)), (4, (.int .u64 8))]) w fun v45 w =>
  kV P (Instr.build 109 #[(0, (.string ⟨#[99, 115, 101, 116, 98, 111, 117, 110, 100, 115, 101, 120, 97, 99, 116]⟩)), (1, (.int .u8 82)), (2, (.int .u64 91)), (3, (.int .u64 0)), (4, (.int .u64 9))]) w fun v46 w =>
  kV P (Instr.build 109 #[(0, (.string ⟨#[99, 115, 101, 97, 108]⟩)), (1, (.int .u8 82)), (2, (.int .u64 91)), (3, (.int .u64 0)), (4, (.int .u64 11))]) w fun v47 w =>
  kV P (Instr.build 109 #[(0, (.string ⟨#[99, 117, 110, 115, 101, 97, 108]⟩)), (1, (.int .u8 82)), (2, (.int .u64 91)), (3, (.int .u64 0)), (4, (.int .u64 12))]) w fun v48 w =>
  kV P (Instr.build 109 #[(0, (.string ⟨#[99, 97, 110, 100, 112, 101, 114, 109]⟩)), (1, (.int .u8 82)), (2, (.int .u64 91)), (3, (.int .u64 0)), (4, (.int .u64 13))]) w fun v49 w =>
  kV P (Instr.build 109 #[(0, (.string ⟨#[99, 115, 101, 116, 97, 100, 100, 114]⟩)), (1, (.int .u8 82)), (2, (.int .u64 91)), (3, (.int .u64 0)), (4, (.int .u64 16))]) w fun v50 w =>
  kV P (Instr.build 109 #[(0, (.string ⟨#[99, 105, 110, 99, 111, 102, 102, 115, 101, 116]⟩)), (1, (.int .u8 82)), (2, (.int .u64 91)), (3, (.int .u64 0)), (4, (.int .u64 17))]) w fun v51 w =>
  kV P (Instr.build 109 #[(0, (.string ⟨#[99, 115, 117, 98]⟩)), (1, (.int .u8 82)), (2, (.int .u64 91)), (3, (.int .u64 0)), (4, (.int .u64 20))]) w fun v52 w =>
  kV P (Instr.build 109 #[(0, (.string ⟨#[99, 98, 117, 105, 108, 100, 99, 97, 112]⟩)), (1, (.int .u8 82)), (2, (.int .u64 91)), (3, (.int .u64 0)), (4, (.int .u64 29))]) w fun v53 w =>
  kV P (Instr.build 109 #[(0, (.string ⟨#[99, 116, 101, 115, 116, 115, 117, 98, 115, 101, 116]⟩)), (1, (.int .u8 82)), (2, (.int .u64 91)), (3, (.int .u64 0)), (4, (.int .u64 32))]) w fun v54 w =>
  kV P (Instr.build 109 #[(0, (.string ⟨#[99, 115, 101, 116, 101, 113, 117, 97, 108]⟩)), (1, (.int .u8 82)), (2, (.int .u64 91)), (3, (.int .u64 0)), (4, (.int .u64 33))]) w fun v55 w =>
  kV P (Instr.build 109 #[(0, (.string ⟨#[99, 103, 101, 116, 112, 101, 114, 109]⟩)), (1, (.int .u8 71)), (2, (.int .u64 91)), (3, (.int .u64 0)), (4, (.int .u64 0))]) w fun v56 w =>
  kV P (Instr.build 109 #[(0, (.string ⟨#[99, 103, 101, 116, 116, 121, 112, 101]⟩)), (1, (.int .u8 71)), (2, (.int .u64 91)), (3, (.int .u64 0)), (4, (.int .u64 1))]) w fun v57 w =>
  kV P (Instr.build 109 #[(0, (.string ⟨#[99, 103, 101, 116, 98, 97, 115, 101]⟩)), (1, (.int .u8 71)), (2, (.int .u64 91)), (3, (.int .u64 0)), (4, (.int .u64 2))]) w fun v58 w =>
  kV P (Instr.build 109 #[(0, (.string ⟨#[99, 103, 101, 116, 108, 101, 110]⟩)), (1, (.int .u8 71)), (2, (.int .u64 91)), (3, (.int .u64 0)), (4, (.int .u64 3))]) w fun v59 w =>
  kV P (Instr.build 109 #[(0, (.string ⟨#[99, 103, 101, 116, 116, 97, 103]⟩)), (1, (.int .u8 71)), (2, (.int .u64 91)), (3, (.int .u64 0)), (4, (.int .u64 4))]) w fun v60 w =>
  kV P (Instr.build 109 #[(0, (.string ⟨#[99, 103, 101, 116, 111, 102, 102, 115, 101, 116]⟩)), (1, (.int .u8 71)), (2, (.int .u64 91)), (3, (.int .u64 0)), (4, (.int .u64 6))]) w fun v61 w =>
  kV P (Instr.build 109 #[(0, (.string ⟨#[99, 114, 114, 108]⟩)), (1, (.int .u8 71)), (2, (.int .u64 91)), (3, (.int .u64 0)), (4, (.int .u64 8))]) w fun v62 w =>
  kV P (Instr.build 109 #[(0, (.string ⟨#[99, 114, 97, 109]⟩)), (1, (.int .u8 71)), (2, (.int .u64 91)), (3, (.int .u64 0)), (4, (.int .u64 9))]) w fun v63 w =>
  kV P (Instr.build 109 #[(0, (.string ⟨#[99, 109, 111, 118, 101]⟩)), (1, (.int .u8 71)), (2, (.int .u64 91)), (3, (.int .u64 0)), (4, (.int .u64 10))]) w fun v64 w =>
  kV P (Instr.build 109 #[(0, (.string ⟨#[99, 99, 108, 101, 97, 114, 116, 97, 103]⟩)), (1, (.int .u8 71)), (2, (.int .u64 91)), (3, (.int .u64 0)), (4, (.int .u64 11))]) w fun v65 w =>
  kV P (Instr.build 109 #[(0, (.string ⟨#[99, 103, 101, 116, 97, 100, 100, 114]⟩)), (1, (.int .u8 71)), (2, (.int .u64 91)), (3, (.int .u64 0)), (4, (.int .u64 15))]) w fun v66 w =>
  kV P (Instr.build 109 #[(0, (.string ⟨#[99, 115, 101, 97, 108, 101, 110, 116, 114, 121]⟩)), (1, (.int .u8 71)), (2, (.int .u64 91)), (3, (.int .u64 0)), (4, (.int .u64 17))]) w fun v67 w =>
  kV P (Instr.build 109 #[(0, (.string ⟨#[99, 105, 110, 99, 111, 102, 102, 115, 101, 116, 105, 109, 109]⟩)), (1, (.int .u8 73)), (2, (.int .u64 91)), (3, (.int .u64 1)), (4, (.int .u64 0))]) w fun v68 w =>
  kV P (Instr.build 109 #[(0, (.string ⟨#[99, 115, 101, 116, 98, 111, 117, 110, 100, 115, 105, 109, 109]⟩)), (1, (.int .u8 67)), (2, (.int .u64 91)), (3, (.int .u64 2)), (4, (.int .u64 0))]) w fun v69 w =>
  kV P (Instr.build 130 #[(0, v1), (1, v2), (2, v3), (3, v4), (4, v5), (5, v6), (6, v7), (7, v8), (8, v9), (9, v10), (10, v11), (11, v12), (12, v13), (13, v14), (14, v15), (15, v16), (16, v17), (17, v18), (18, v19), (19, v20), (20, v21), (21, v22), (22, v23), (23, v24), (24, v25), (25, v26), (26, v27), (27, v28), (28, v29), (29, v30), (30, v31), (31, v32), (32, v33), (33, v34), (34, v35), (35, v36), (36, v37), (37, v38), (38, v39), (39, v40), (40, v41), (41, v42), (42, v43), (43, v44), (44, v45), (45, v46), (46, v47), (47, v48), (48, v49), (49, v50), (50, v51), (51, v52), (52, v53), (53, v54), (54, v55), (55, v56), (56, v57), (57, v58), (58, v59), (59, v60), (60, v61), (61, v62), (62, v63), (63, v64), (64, v65), (65, v66), (66, v67), (67, v68), (68, v69)]) w fun v70 w =>
  kU P (Instr.storeAt 130 v0 v70) w fun _ w =>
  retV P 130 v0 w fun r0 =>
  K r0 w
theorem F75_eq (P : Program) (w : World) (K : Value → World → Prop) : funE P ⟨[], [], []⟩ Try.f75 [] w K = F75 P  w K := by kernel_rfl
theorem F75_ok (w : World) (K : Value → World → Prop) (h : F75 Try.prog  w K) : callsK Try.prog 75 #[] w K := calls_of_eq mixedC Try.func75 (F75_eq _  w K) h

/-- mintmark/bounds.Decode -/
def F76 (P : Program) (t0 t1 : Value) (w : World) (K : Value → World → Prop) : Prop :=
  kV P (Instr.box 134 t0) w fun v2 w =>
  kV P (Instr.alloc 47 true (.tuple #[])) w fun v4 w =>
  joinL (fun J0 =>
  drewK (fun w =>
  (kV P (Instr.loadAt 134 v2) w fun v11 w =>
  kV P (Instr.loadAt 134 v2) w fun v12 w =>
  kN P (callN (.func (.func 89) #[] #[]) #[v12]) w fun v13 w =>
  kN P (callN (.func (.func 77) #[] #[]) #[v13]) w fun v14 w =>
  pV P (binV .neq 134 (.tmp 11) (.tmp 14) v11 v14) fun v15 =>
  gdP (yb v15) false (fun k => pV P (Instr.fieldAt 134 v2 2) k) fun v17 =>
  gdK (yb v15) false (fun k => kV P (Instr.loadAt 28 v17) w k) w fun v18 w =>
  gdP (yb v15) false (fun k => pV P (binV .gtr 28 (.tmp 18) (.const (.int .u64 37)) v18 (.int .u64 37)) k) fun v19 =>
  pN P (pickN v15 (.bool true) v19) fun v20 =>
  gdP (yb v20) false (fun k => k t1) fun v22 =>
  gdP (yb v20) false (fun k => pV P (binV .geq 28 (.tmp 22) (.const (.int .u64 281474976710656)) v22 (.int .u64 281474976710656)) k) fun v23 =>
  pN P (pickN v20 (.bool true) v23) fun v24 =>
  J0 [v24] w) ∧
  (kV P (Instr.loadAt 134 v2) w fun v12_1 w =>
  (kV P (Instr.loadAt 134 v2) w fun v11_1 w =>
  kN P (callN (.func (.func 89) #[] #[]) #[v12_1]) w fun v13_1 w =>
  kN P (callN (.func (.func 77) #[] #[]) #[v13_1]) w fun v14_1 w =>
  pV P (binV .neq 134 (.tmp 11) (.tmp 14) v11_1 v14_1) fun v15_1 =>
  gdP (yb v15_1) false (fun k => pV P (Instr.fieldAt 134 v2 2) k) fun v17_1 =>
  gdK (yb v15_1) false (fun k => kV P (Instr.loadAt 28 v17_1) w k) w fun v18_1 w =>
  gdP (yb v15_1) false (fun k => pV P (binV .gtr 28 (.tmp 18) (.const (.int .u64 37)) v18_1 (.int .u64 37)) k) fun v19_1 =>
  pN P (pickN v15_1 (.bool true) v19_1) fun v20_1 =>
  gdP (yb v20_1) false (fun k => k t1) fun v22_1 =>
  gdP (yb v20_1) false (fun k => pV P (binV .geq 28 (.tmp 22) (.const (.int .u64 281474976710656)) v22_1 (.int .u64 281474976710656)) k) fun v23_1 =>
  pN P (pickN v20_1 (.bool true) v23_1) fun v24_1 =>
  J0 [v24_1] w) ∧
  (kN P (callN (.func (.func 89) #[] #[]) #[v12_1]) w fun v13_2 w =>
  (kV P (Instr.loadAt 134 v2) w fun v11_2 w =>
  kN P (callN (.func (.func 77) #[] #[]) #[v13_2]) w fun v14_2 w =>
  pV P (binV .neq 134 (.tmp 11) (.tmp 14) v11_2 v14_2) fun v15_2 =>
  gdP (yb v15_2) false (fun k => pV P (Instr.fieldAt 134 v2 2) k) fun v17_2 =>
  gdK (yb v15_2) false (fun k => kV P (Instr.loadAt 28 v17_2) w k) w fun v18_2 w =>
  gdP (yb v15_2) false (fun k => pV P (binV .gtr 28 (.tmp 18) (.const (.int .u64 37)) v18_2 (.int .u64 37)) k) fun v19_2 =>
  pN P (pickN v15_2 (.bool true) v19_2) fun v20_2 =>
  gdP (yb v20_2) false (fun k => k t1) fun v22_2 =>
  gdP (yb v20_2) false (fun k => pV P (binV .geq 28 (.tmp 22) (.const (.int .u64 281474976710656)) v22_2 (.int .u64 281474976710656)) k) fun v23_2 =>
  pN P (pickN v20_2 (.bool true) v23_2) fun v24_2 =>
  J0 [v24_2] w) ∧
  (kN P (callN (.func (.func 77) #[] #[]) #[v13_2]) w fun v14_3 w =>
  kV P (Instr.loadAt 134 v2) w fun v11_3 w =>
  pV P (binV .neq 134 (.tmp 11) (.tmp 14) v11_3 v14_3) fun v15_3 =>
  gdP (yb v15_3) false (fun k => pV P (Instr.fieldAt 134 v2 2) k) fun v17_3 =>
  gdK (yb v15_3) false (fun k => kV P (Instr.loadAt 28 v17_3) w k) w fun v18_3 w =>
  gdP (yb v15_3) false (fun k => pV P (binV .gtr 28 (.tmp 18) (.const (.int .u64 37)) v18_3 (.int .u64 37)) k) fun v19_3 =>
  pN P (pickN v15_3 (.bool true) v19_3) fun v20_3 =>
  gdP (yb v20_3) false (fun k => k t1) fun v22_3 =>
  gdP (yb v20_3) false (fun k => pV P (binV .geq 28 (.tmp 22) (.const (.int .u64 281474976710656)) v22_3 (.int .u64 281474976710656)) k) fun v23_3 =>
  pN P (pickN v20_3 (.bool true) v23_3) fun v24_3 =>
  J0 [v24_3] w)))) w) fun s0 w => ∀ _ : Nat → Value,
  condK (s0.getD 0 undef)
  (kV P (Instr.build 47 #[]) w fun v25 w =>
  kU P (Instr.storeAt 47 v4 v25) w fun _ w =>
  retV P 47 v4 w fun r2 =>
  K (.tuple #[r2, (.bool false)]) w)
  (kV P (Instr.fieldAt 134 v2 2) w fun v26 w =>
  kV P (Instr.loadAt 28 v26) w fun v27 w =>
  kN P (callN (.func (.func 90) #[] #[]) #[v27]) w fun v28 w =>
  kV P (Instr.fieldAt 134 v2 1) w fun v29 w =>
  kV P (Instr.loadAt 28 v29) w fun v30 w =>
  kV P (Instr.fieldAt 134 v2 0) w fun v31 w =>
  kV P (Instr.loadAt 28 v31) w fun v32 w =>
  kV P (binV .sub 28 (.tmp 30) (.tmp 32) v30 v32) w fun v33 w =>
  kV P (binV .and 28 (.tmp 33) (.const (.int .u64 4095)) v33 (.int .u64 4095)) w fun v34 w =>
  joinL (fun J3 =>
  kV P (Instr.fieldAt 134 v2 2) w fun v35 w =>
  kV P (Instr.loadAt 28 v35) w fun v36 w =>
  kV P (binV .gtr 28 (.tmp 36) (.const (.int .u64 0)) v36 (.int .u64 0)) w fun v37 w =>
  condK v37
  (kV P (binV .or 28 (.tmp 38) (.const (.int .u64 4096)) v34 (.int .u64 4096)) w fun v39 w =>
  J3 [v39] w)
  (J3 [v34] w)) fun s3 w => ∀ _ : Nat → Value,
  kV P (binV .shr 28 (.tmp 40) (.tmp 41) t1 v28) w fun v42 w =>
  kV P (Instr.fieldAt 134 v2 0) w fun v44 w =>
  kV P (Instr.loadAt 28 v44) w fun v45 w =>
  kV P (binV .sub 28 (.tmp 43) (.tmp 45) v42 v45) w fun v46 w =>
  kV P (binV .add 28 (.tmp 46) (.const (.int .u64 4096)) v46 (.int .u64 4096)) w fun v47 w =>
  kV P (binV .and 28 (.tmp 47) (.const (.int .u64 16383)) v47 (.int .u64 16383)) w fun v48 w =>
  kV P (binV .add 28 (.tmp 49) (.const (.int .u64 4096)) v42 (.int .u64 4096)) w fun v50 w =>
  kV P (binV .lss 28 (.tmp 50) (.tmp 51) v50 v48) w fun v52 w =>
  condK v52
  (kV P (Instr.build 47 #[]) w fun v53 w =>
  kU P (Instr.storeAt 47 v4 v53) w fun _ w =>
  retV P 47 v4 w fun r5 =>
  K (.tuple #[r5, (.bool false)]) w)
  (kV P (binV .add 28 (.tmp 54) (.const (.int .u64 4096)) v42 (.int .u64 4096)) w fun v55 w =>
  kV P (binV .sub 28 (.tmp 55) (.tmp 56) v55 v48) w fun v57 w =>
  kV P (binV .add 28 (.tmp 58) (.tmp 59) v57 (s3.getD 0 undef)) w fun v60 w =>
  kV P (binV .shr 28 (.const (.int .u64 281474976710656)) (.tmp 61) (.int .u64 281474976710656) v28) w fun v62 w =>
  kV P (binV .gtr 28 (.tmp 60) (.tmp 62) v60 v62) w fun v63 w =>
  condK v63
  (kV P (Instr.build 47 #[]) w fun v64 w =>
  kU P (Instr.storeAt 47 v4 v64) w fun _ w =>
  retV P 47 v4 w fun r6 =>
  K (.tuple #[r6, (.bool false)]) w)
  (drewK (fun w =>
  sV P (binV .shl 28 (.tmp 65) (.tmp 66) v57 v28) w fun v67 =>
  sV P (binV .add 28 (.tmp 68) (.tmp 69) v57 (s3.getD 0 undef)) w fun v70 =>
  sV P (binV .shl 28 (.tmp 70) (.tmp 71) v70 v28) w fun v72 =>
  kV P (Instr.build 47 #[(0, v67), (1, v72)]) w fun v73 w =>
  kU P (Instr.storeAt 47 v4 v73) w fun _ w =>
  retV P 47 v4 w fun r7 =>
  K (.tuple #[r7, (.bool true)]) w) w)))
theorem F76_eq (P : Program) (t0 t1 : Value) (w : World) (K : Value → World → Prop) : funE P ⟨[(1, 999), (14, 8)], [], [(2, [24]), (7, [7])]⟩ Try.f76 [t0, t1] w K = F76 P t0 t1 w K := by kernel_rfl
theorem F76_ok (t0 t1 : Value) (w : World) (K : Value → World → Prop) (h : F76 Try.prog t0 t1 w K) : callsK Try.prog 76 #[t0, t1] w K := calls_of_eq mixedC Try.func76 (F76_eq _ t0 t1 w K) h

/-- mintmark/bounds.Of -/
def F77 (P : Program) (t0 : Value) (w : World) (K : Value → World → Prop) : Prop :=
  kV P (Instr.alloc 134 true (.tuple #[])) w fun v2 w =>
  kV P (Instr.alloc 149 true (.tuple #[])) w fun v3 w =>
  kN P (callN (.func (.func 91) #[] #[]) #[]) w fun v7 w =>
  loopT (fun R0 s0 w => ∀ _ : Nat → Value,
  kV P (binV .lss 3 (.tmp 8) (.const (.int .i64 3)) (s0.getD 1 undef) (.int .i64 3)) w fun v9 w =>
  condK v9
  (kV P (Instr.index 150 v7 (s0.getD 1 undef)) w fun v11 w =>
  kN P (callN (.func (.func 78) #[] #[]) #[t0, (s0.getD 0 undef), v11]) w fun v16 w =>
  kV P (Instr.indexAt 149 v3 (s0.getD 1 undef)) w fun v17 w =>
  kU P (Instr.storeAt 28 v17 v16) w fun _ w =>
  kV P (binV .add 3 (.tmp 18) (.tmp 19) (s0.getD 0 undef) v11) w fun v20 w =>
  kV P (binV .add 3 (.tmp 8) (.const (.int .i64 1)) (s0.getD 1 undef) (.int .i64 1)) w fun v21 w =>
  R0 [v20, v21] w)
  (kV P (Instr.indexAt 149 v3 (.int .i64 0)) w fun v22 w =>
  kV P (Instr.loadAt 28 v22) w fun v23 w =>
  kV P (Instr.indexAt 149 v3 (.int .i64 1)) w fun v24 w =>
  kV P (Instr.loadAt 28 v24) w fun v25 w =>
  kV P (Instr.indexAt 149 v3 (.int .i64 2)) w fun v26 w =>
  kV P (Instr.loadAt 28 v26) w fun v27 w =>
  kV P (Instr.build 134 #[(0, v23), (1, v25), (2, v27)]) w fun v28 w =>
  kU P (Instr.storeAt 134 v2 v28) w fun _ w =>
  retV P 134 v2 w fun r2 =>
  K r2 w)) [(.int .i64 0), (.int .i64 0)] w
theorem F77_eq (P : Program) (t0 : Value) (w : World) (K : Value → World → Prop) : funE P ⟨[], [(4, [4, 8])], []⟩ Try.f77 [t0] w K = F77 P t0 w K := by kernel_rfl
theorem F77_ok (t0 : Value) (w : World) (K : Value → World → Prop) (h : F77 Try.prog t0 w K) : callsK Try.prog 77 #[t0] w K := calls_of_eq mixedC Try.func77 (F77_eq _ t0 w K) h

/-- mintmark/field.Get -/
def F78 (P : Program) (t0 t1 t2 : Value) (w : World) (K : Value → World → Prop) : Prop :=
  kN P (callN (.func (.func 92) #[] #[]) #[t1, t2]) w fun v9 w =>
  kV P (Op.unary .not v9) w fun v10 w =>
  condK v10
  (K (.int .u64 0) w)
  (drewK (fun w =>
  pV P (binV .shr 28 (.tmp 11) (.tmp 12) t0 t1) fun v13 =>
  kN P (callN (.func (.func 93) #[] #[]) #[t2]) w fun v15 w =>
  pV P (binV .and 28 (.tmp 13) (.tmp 15) v13 v15) fun v16 =>
  K v16 w) w)
theorem F78_eq (P : Program) (t0 t1 t2 : Value) (w : World) (K : Value → World → Prop) : funE P ⟨[(3, 999)], [], []⟩ Try.f78 [t0, t1, t2] w K = F78 P t0 t1 t2 w K := by kernel_rfl
theorem F78_ok (t0 t1 t2 : Value) (w : World) (K : Value → World → Prop) (h : F78 Try.prog t0 t1 t2 w K) : callsK Try.prog 78 #[t0, t1, t2] w K := calls_of_eq mixedC Try.func78 (F78_eq _ t0 t1 t2 w K) h

/-- mintmark/algebra.told -/
def F79 (P : Program) (t0 t1 : Value) (w : World) (K : Value → World → Prop) : Prop :=
  kV P (Instr.box 33 t0) w fun v2 w =>
  kV P (Instr.box 138 t1) w fun v3 w =>
  kV P (Instr.loadAt 33 v2) w fun v5 w =>
  kN P (callN (.func (.func 94) #[] #[]) #[v5, (.func (.func 95) #[] #[v3])]) w fun v7 w =>
  K v7 w
theorem F79_eq (P : Program) (t0 t1 : Value) (w : World) (K : Value → World → Prop) : funE P ⟨[], [], []⟩ Try.f79 [t0, t1] w K = F79 P t0 t1 w K := by kernel_rfl
theorem F79_ok (t0 t1 : Value) (w : World) (K : Value → World → Prop) (h : F79 Try.prog t0 t1 w K) : callsK Try.prog 79 #[t0, t1] w K := calls_of_eq mixedC Try.func79 (F79_eq _ t0 t1 w K) h

/-- (mintmark/algebra.ends).base -/
def F80 (P : Program) (t0 : Value) (w : World) (K : Value → World → Prop) : Prop :=
  kV P (Instr.box 140 t0) w fun v1 w =>
  kV P (Instr.fieldAt 140 v1 0) w fun v3 w =>
  kV P (Instr.loadAt 28 v3) w fun v4 w =>
  K v4 w
theorem F80_eq (P : Program) (t0 : Value) (w : World) (K : Value → World → Prop) : funE P ⟨[], [], []⟩ Try.f80 [t0] w K = F80 P t0 w K := by kernel_rfl
theorem F80_ok (t0 : Value) (w : World) (K : Value → World → Prop) (h : F80 Try.prog t0 w K) : callsK Try.prog 80 #[t0] w K := calls_of_eq mixedC Try.func80 (F80_eq _ t0 w K) h

/-- (mintmark/algebra.ends).top -/
def F81 (P : Program) (t0 : Value) (w : World) (K : Value → World → Prop) : Prop :=
  kV P (Instr.box 140 t0) w fun v1 w =>
  kV P (Instr.fieldAt 140 v1 1) w fun v3 w =>
  kV P (Instr.loadAt 28 v3) w fun v4 w =>
  K v4 w
theorem F81_eq (P : Program) (t0 : Value) (w : World) (K : Value → World → Prop) : funE P ⟨[], [], []⟩ Try.f81 [t0] w K = F81 P t0 w K := by kernel_rfl
theorem F81_ok (t0 : Value) (w : World) (K : Value → World → Prop) (h : F81 Try.prog t0 w K) : callsK Try.prog 81 #[t0] w K := calls_of_eq mixedC Try.func81 (F81_eq _ t0 w K) h

/-- mintmark/mintmarkref03.exponent -/
def F88 (P : Program) (t0 : Value) (w : World) (K : Value → World → Prop) : Prop :=
  kV P (binV .eql 28 (.tmp 3) (.const (.int .u64 0)) t0 (.int .u64 0)) w fun v4 w =>
  condK v4
  (K (.int .u64 0) w)
  (kV P (binV .sub 28 (.tmp 5) (.const (.int .u64 1)) t0 (.int .u64 1)) w fun v6 w =>
  K v6 w)
theorem F88_eq (P : Program) (t0 : Value) (w : World) (K : Value → World → Prop) : funE P ⟨[], [], []⟩ Try.f88 [t0] w K = F88 P t0 w K := by kernel_rfl
theorem F88_ok (t0 : Value) (w : World) (K : Value → World → Prop) (h : F88 Try.prog t0 w K) : callsK Try.prog 88 #[t0] w K := calls_of_eq mixedC Try.func88 (F88_eq _ t0 w K) h

/-- mintmark/bounds.Word -/
def F89 (P : Program) (t0 : Value) (w : World) (K : Value → World → Prop) : Prop :=
  kV P (Instr.box 134 t0) w fun v1 w =>
  kV P (Instr.fieldAt 134 v1 0) w fun v8 w =>
  kV P (Instr.loadAt 28 v8) w fun v9 w =>
  kV P (Instr.fieldAt 134 v1 1) w fun v10 w =>
  kV P (Instr.loadAt 28 v10) w fun v11 w =>
  kV P (Instr.fieldAt 134 v1 2) w fun v12 w =>
  kV P (Instr.loadAt 28 v12) w fun v13 w =>
  kV P (Instr.build 149 #[(0, v9), (1, v11), (2, v13)]) w fun v14 w =>
  kV P (Instr.alloc 149 true (.tuple #[])) w fun v5 w =>
  kU P (Instr.storeAt 149 v5 v14) w fun _ w =>
  kN P (callN (.func (.func 91) #[] #[]) #[]) w fun v15 w =>
  loopT (fun R0 s0 w => ∀ _ : Nat → Value,
  kV P (binV .lss 3 (.tmp 16) (.const (.int .i64 3)) (s0.getD 2 undef) (.int .i64 3)) w fun v17 w =>
  condK v17
  (kV P (Instr.index 150 v15 (s0.getD 2 undef)) w fun v19 w =>
  kV P (Instr.indexAt 149 v5 (s0.getD 2 undef)) w fun v24 w =>
  kV P (Instr.loadAt 28 v24) w fun v25 w =>
  kN P (callN (.func (.func 108) #[] #[]) #[(s0.getD 0 undef), (s0.getD 1 undef), v19, v25]) w fun v26 w =>
  kV P (binV .add 3 (.tmp 27) (.tmp 28) (s0.getD 1 undef) v19) w fun v29 w =>
  kV P (binV .add 3 (.tmp 16) (.const (.int .i64 1)) (s0.getD 2 undef) (.int .i64 1)) w fun v30 w =>
  R0 [v26, v29, v30] w)
  (K (s0.getD 0 undef) w)) [(.int .u64 0), (.int .i64 0), (.int .i64 0)] w
theorem F89_eq (P : Program) (t0 : Value) (w : World) (K : Value → World → Prop) : funE P ⟨[], [(4, [4, 3, 16])], []⟩ Try.f89 [t0] w K = F89 P t0 w K := by kernel_rfl
theorem F89_ok (t0 : Value) (w : World) (K : Value → World → Prop) (h : F89 Try.prog t0 w K) : callsK Try.prog 89 #[t0] w K := calls_of_eq mixedC Try.func89 (F89_eq _ t0 w K) h

/-- mintmark/bounds.shift -/
def F90 (P : Program) (t0 : Value) (w : World) (K : Value → World → Prop) : Prop :=
  kV P (convert 28 3 t0) w fun v4 w =>
  kV P (Builtin.max_ #[3, 3] 3 #[v4, (.int .i64 1)]) w fun v5 w =>
  kV P (binV .sub 3 (.tmp 5) (.const (.int .i64 1)) v5 (.int .i64 1)) w fun v6 w =>
  K v6 w
theorem F90_eq (P : Program) (t0 : Value) (w : World) (K : Value → World → Prop) : funE P ⟨[], [], []⟩ Try.f90 [t0] w K = F90 P t0 w K := by kernel_rfl
theorem F90_ok (t0 : Value) (w : World) (K : Value → World → Prop) (h : F90 Try.prog t0 w K) : callsK Try.prog 90 #[t0] w K := calls_of_eq mixedC Try.func90 (F90_eq _ t0 w K) h

/-- mintmark/bounds.widths -/
def F91 (P : Program) (w : World) (K : Value → World → Prop) : Prop :=
  kV P (Instr.alloc 150 true (.tuple #[])) w fun v0 w =>
  kV P (Instr.build 150 #[(0, (.int .i64 14)), (1, (.int .i64 12)), (2, (.int .i64 6))]) w fun v1 w =>
  kU P (Instr.storeAt 150 v0 v1) w fun _ w =>
  retV P 150 v0 w fun r0 =>
  K r0 w
theorem F91_eq (P : Program) (w : World) (K : Value → World → Prop) : funE P ⟨[], [], []⟩ Try.f91 [] w K = F91 P  w K := by kernel_rfl
theorem F91_ok (w : World) (K : Value → World → Prop) (h : F91 Try.prog  w K) : callsK Try.prog 91 #[] w K := calls_of_eq mixedC Try.func91 (F91_eq _  w K) h

/-- mintmark/field.may -/
def F92 (P : Program) (t0 t1 : Value) (w : World) (K : Value → World → Prop) : Prop :=
  kV P (binV .geq 3 (.tmp 5) (.const (.int .i64 0)) t1 (.int .i64 0)) w fun v6 w =>
  joinK (fun J0 : Value → World → Prop => gdK (yb v6) true (fun k => k t1 w) w fun v8 w =>
  gdK (yb v6) true (fun k => kV P (binV .leq 3 (.tmp 8) (.const (.int .i64 64)) v8 (.int .i64 64)) w k) w fun v9 w =>
  kN P (pickN v6 v9 (.bool false)) w fun v10_1 w =>
  J0 v10_1 w) fun v10 w =>
  joinK (fun J1 : Value → World → Prop => gdK (yb v10) true (fun k => k t0 w) w fun v12 w =>
  gdK (yb v10) true (fun k => kV P (binV .geq 3 (.tmp 12) (.const (.int .i64 0)) v12 (.int .i64 0)) w k) w fun v13 w =>
  kN P (pickN v10 v13 (.bool false)) w fun v14_1 w =>
  J1 v14_1 w) fun v14 w =>
  joinK (fun J2 : Value → World → Prop => gdK (yb v14) true (fun k => k t0 w) w fun v16 w =>
  gdK (yb v14) true (fun k => k t1 w) w fun v17 w =>
  gdK (yb v14) true (fun k => kV P (binV .sub 3 (.const (.int .i64 64)) (.tmp 17) (.int .i64 64) v17) w k) w fun v18 w =>
  gdK (yb v14) true (fun k => kV P (binV .leq 3 (.tmp 16) (.tmp 18) v16 v18) w k) w fun v19 w =>
  kN P (pickN v14 v19 (.bool false)) w fun v20_1 w =>
  J2 v20_1 w) fun v20 w =>
  K v20 w
theorem F92_eq (P : Program) (t0 t1 : Value) (w : World) (K : Value → World → Prop) : funE P ⟨[], [], []⟩ Try.f92 [t0, t1] w K = F92 P t0 t1 w K := by kernel_rfl
theorem F92_ok (t0 t1 : Value) (w : World) (K : Value → World → Prop) (h : F92 Try.prog t0 t1 w K) : callsK Try.prog 92 #[t0, t1] w K := calls_of_eq mixedC Try.func92 (F92_eq _ t0 t1 w K) h

/-- mintmark/field.Mask -/
def F93 (P : Program) (t0 : Value) (w : World) (K : Value → World → Prop) : Prop :=
  kV P (binV .lss 3 (.tmp 4) (.const (.int .i64 1)) t0 (.int .i64 1)) w fun v5 w =>
  condK v5
  (K (.int .u64 0) w)
  (kV P (binV .geq 3 (.tmp 7) (.const (.int .i64 64)) t0 (.int .i64 64)) w fun v8 w =>
  condK v8
  (K (.int .u64 18446744073709551615) w)
  (kV P (binV .shl 28 (.const (.int .u64 1)) (.tmp 9) (.int .u64 1) t0) w fun v10 w =>
  kV P (binV .sub 28 (.tmp 10) (.const (.int .u64 1)) v10 (.int .u64 1)) w fun v11 w =>
  K v11 w))
theorem F93_eq (P : Program) (t0 : Value) (w : World) (K : Value → World → Prop) : funE P ⟨[], [], []⟩ Try.f93 [t0] w K = F93 P t0 w K := by kernel_rfl
theorem F93_ok (t0 : Value) (w : World) (K : Value → World → Prop) (h : F93 Try.prog t0 w K) : callsK Try.prog 93 #[t0] w K := calls_of_eq mixedC Try.func93 (F93_eq _ t0 w K) h

/-- mintmark/algebra.seen[uint64] -/
def F94 (P : Program) (t0 t1 : Value) (w : World) (K : Value → World → Prop) : Prop :=
  kV P (Instr.box 33 t0) w fun v2 w =>
  kV P (Instr.loadAt 33 v2) w fun v8 w =>
  kN P (callN (.func (.func 56) #[] #[]) #[v8]) w fun v9 w =>
  kV P (Instr.extract v9 0) w fun v10 w =>
  kV P (Instr.extract v9 1) w fun v11 w =>
  kV P (Instr.alloc 113 true (.tuple #[])) w fun v5 w =>
  kU P (Instr.storeAt 113 v5 v10) w fun _ w =>
  kV P (Instr.fieldAt 113 v5 0) w fun v13 w =>
  kV P (Instr.loadAt 47 v13) w fun v14 w =>
  kN P (callN t1 #[v14]) w fun v15 w =>
  K v15 w
theorem F94_eq (P : Program) (t0 t1 : Value) (w : World) (K : Value → World → Prop) : funE P ⟨[], [], []⟩ Try.f94 [t0, t1] w K = F94 P t0 t1 w K := by kernel_rfl
theorem F94_ok (t0 t1 : Value) (w : World) (K : Value → World → Prop) (h : F94 Try.prog t0 t1 w K) : callsK Try.prog 94 #[t0, t1] w K := calls_of_eq mixedC Try.func94 (F94_eq _ t0 t1 w K) h

/-- mintmark/algebra.told$1 -/
def F95 (P : Program) (t0 t1 : Value) (w : World) (K : Value → World → Prop) : Prop :=
  kV P (Instr.box 47 t0) w fun v2 w =>
  kV P (Instr.loadAt 138 t1) w fun v4 w =>
  kV P (Instr.loadAt 47 v2) w fun v5 w =>
  kN P (callN v4 #[v5]) w fun v6 w =>
  K v6 w
theorem F95_eq (P : Program) (t0 t1 : Value) (w : World) (K : Value → World → Prop) : funE P ⟨[], [], []⟩ Try.f95 [t0, t1] w K = F95 P t0 t1 w K := by kernel_rfl
theorem F95_ok (t0 t1 : Value) (w : World) (K : Value → World → Prop) (h : F95 Try.prog t0 t1 w K) : callsK Try.prog 95 #[t0, t1] w K := calls_of_eq mixedC Try.func95 (F95_eq _ t0 t1 w K) h

/-- mintmark/field.Put -/
def F108 (P : Program) (t0 t1 t2 t3 : Value) (w : World) (K : Value → World → Prop) : Prop :=
  kN P (callN (.func (.func 92) #[] #[]) #[t1, t2]) w fun v12 w =>
  kV P (Op.unary .not v12) w fun v13 w =>
  condK v13
  (K t0 w)
  (kN P (callN (.func (.func 93) #[] #[]) #[t2]) w fun v16 w =>
  drewK (fun w =>
  sV P (binV .shl 28 (.tmp 18) (.tmp 19) v16 t1) w fun v20 =>
  sV P (binV .andNot 28 (.tmp 17) (.tmp 20) t0 v20) w fun v21 =>
  sV P (binV .and 28 (.tmp 22) (.tmp 23) t3 v16) w fun v24 =>
  sV P (binV .shl 28 (.tmp 24) (.tmp 25) v24 t1) w fun v26 =>
  sV P (binV .or 28 (.tmp 21) (.tmp 26) v21 v26) w fun v27 =>
  K v27 w) w)
theorem F108_eq (P : Program) (t0 t1 t2 t3 : Value) (w : World) (K : Value → World → Prop) : funE P ⟨[], [], []⟩ Try.f108 [t0, t1, t2, t3] w K = F108 P t0 t1 t2 t3 w K := by kernel_rfl
theorem F108_ok (t0 t1 t2 t3 : Value) (w : World) (K : Value → World → Prop) (h : F108 Try.prog t0 t1 t2 t3 w K) : callsK Try.prog 108 #[t0, t1, t2, t3] w K := calls_of_eq mixedC Try.func108 (F108_eq _ t0 t1 t2 t3 w K) h

end Go.Proofs.Ytgnibcaflidjmaa
