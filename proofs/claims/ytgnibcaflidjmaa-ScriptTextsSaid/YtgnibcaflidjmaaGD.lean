/- The formulas of functions of this seat, told otherwise; conditions: none. -/
import Derived.Test.YtgnibcaflidjmaaFC
namespace Go.Proofs.Ytgnibcaflidjmaa
open Go.Fx
set_option linter.unusedVariables false
set_option linter.constructorNameAsVariable false
set_option maxRecDepth 100000
/-- mintmark/mintmarklaw29.ScriptTexts -/
def G4 (P : Program) (t0 t1 : Value) (w : World) (K : Value → World → Prop) : Prop :=
  kV P (Instr.box 35 t0) w fun v2 w =>
  joinL (fun J0 =>
  kV P (Builtin.len_ #[36] 3 #[t1]) w fun v9 w =>
  kV P (binV .gtr 3 (.tmp 9) (.const (.int .i64 50)) v9 (.int .i64 50)) w fun v10 w =>
  condK v10
  (kV P (Instr.sliceAt 36 t1 none (some (.int .i64 50)) none) w fun v12 w =>
  J0 [v12] w)
  (J0 [t1] w)) fun s0 w => ∀ _ : Nat → Value,
  loopT (fun R2 s2 w => ∀ _ : Nat → Value,
  kV P (Builtin.len_ #[36] 3 #[(s0.getD 0 undef)]) w fun v15 w =>
  kV P (binV .lss 3 (.tmp 13) (.tmp 15) (s2.getD 1 undef) v15) w fun v16 w =>
  condK v16
  (joinL (fun J4 =>
  drewK (fun w =>
  sV P (Instr.indexAt 36 (s0.getD 0 undef) (s2.getD 1 undef)) w fun v21 =>
  sV P (Instr.fieldAt 35 v21 0) w fun v22 =>
  sV P (Instr.loadAt 3 v22) w fun v23 =>
  sV P (Instr.fieldAt 35 v2 0) w fun v24 =>
  sV P (Instr.loadAt 3 v24) w fun v25 =>
  sV P (binV .eql 3 (.tmp 23) (.tmp 25) v23 v25) w fun v26 =>
  condK v26
  (kV P (Instr.indexAt 36 (s0.getD 0 undef) (s2.getD 1 undef)) w fun v31 w =>
  kV P (Instr.loadAt 35 v31) w fun v32 w =>
  kN P (callN (.func (.func 13) #[] #[]) #[v32]) w fun v33 w =>
  kV P (binV .add 9 (.tmp 27) (.tmp 33) (s2.getD 0 undef) v33) w fun v34 w =>
  J4 [v34] w)
  (J4 [(s2.getD 0 undef)] w)) w) fun s4 w => ∀ _ : Nat → Value,
  kV P (binV .add 3 (.tmp 17) (.const (.int .i64 1)) (s2.getD 1 undef) (.int .i64 1)) w fun v18 w =>
  R2 [(s4.getD 0 undef), v18] w)
  (drewK (fun w =>
  parR (fun I =>
  iV P I (Instr.loadAt 35 v2) fun v35 =>
  iN P I (callN (.func (.func 15) #[] #[]) #[v35]) fun v36 =>
  iV P I (Instr.loadAt 35 v2) fun v38 =>
  iN P I (callN (.func (.func 13) #[] #[]) #[v38]) fun v39 =>
  pV P (binV .eql 9 (.tmp 36) (.tmp 39) v36 v39) fun v40 =>
  gdP (yb v40) true (fun k => k (s0.getD 0 undef)) fun v42 =>
  gdP (yb v40) true (fun k => pV P (Instr.fieldAt 35 v2 0) k) fun v43 =>
  gdP (yb v40) true (fun k => iV P I (Instr.loadAt 3 v43) k) fun v44 =>
  gdP (yb v40) true (fun k => iN P I (callN (.func (.func 16) #[] #[]) #[v42, v44]) k) fun v45 =>
  gdP (yb v40) true (fun k => k (s2.getD 0 undef)) fun v46 =>
  gdP (yb v40) true (fun k => pV P (binV .eql 9 (.tmp 45) (.tmp 46) v45 v46) k) fun v47 =>
  pN P (pickN v40 v47 (.bool false)) fun v48 =>
  gdP (yb v48) true (fun k => iN P I (callN (.func (.func 17) #[] #[]) #[]) k) fun v50 =>
  pN P (pickN v48 v50 (.bool false)) fun v51 =>
  allI I fun w =>
  K v51 w) w) w)) [(.string ⟨#[]⟩), (.int .i64 0)] w
theorem G4_eq (P : Program) (t0 t1 : Value) (w : World) (K : Value → World → Prop) : funE P ⟨[(10, 998)], [(6, [6, 7])], [(4, [1]), (7, [6])]⟩ Try.f4 [t0, t1] w K = G4 P t0 t1 w K := by kernel_rfl
theorem G4_ok (t0 t1 : Value) (w : World) (K : Value → World → Prop) (h : G4 Try.prog t0 t1 w K) : callsK Try.prog 4 #[t0, t1] w K := calls_of_eq mixedC Try.func4 (G4_eq _ t0 t1 w K) h

/-- mintmark/mintmarkref29.Text -/
def G14 (P : Program) (t0 : Value) (w : World) (K : Value → World → Prop) : Prop :=
  kV P (Instr.box 40 t0) w fun v1 w =>
  joinL (fun J0 =>
  drewK (fun w =>
  parR (fun I =>
  pV P (Instr.fieldAt 40 v1 0) fun v6 =>
  iV P I (Instr.loadAt 3 v6) fun v7 =>
  iN P I (callN (.func (.func 31) #[] #[]) #[v7]) fun v8 =>
  pV P (binV .add 9 (.const (.string ⟨#[112]⟩)) (.tmp 8) (.string ⟨#[112]⟩) v8) fun v9 =>
  pV P (binV .add 9 (.tmp 9) (.const (.string ⟨#[32]⟩)) v9 (.string ⟨#[32]⟩)) fun v10 =>
  pV P (Instr.fieldAt 40 v1 2) fun v11 =>
  iV P I (Instr.loadAt 28 v11) fun v12 =>
  iN P I (callN (.func (.func 32) #[] #[]) #[v12, (.int .u64 16)]) fun v13 =>
  pV P (binV .add 9 (.tmp 10) (.tmp 13) v10 v13) fun v14 =>
  pV P (binV .add 9 (.tmp 14) (.const (.string ⟨#[32]⟩)) v14 (.string ⟨#[32]⟩)) fun v15 =>
  allI I fun w =>
  J0 [v15] w) w) w) fun s0 w => ∀ _ : Nat → Value,
  kV P (Instr.fieldAt 40 v1 1) w fun v16 w =>
  kV P (Instr.loadAt 3 v16) w fun v17 w =>
  kV P (binV .eql 3 (.tmp 17) (.const (.int .i64 0)) v17 (.int .i64 0)) w fun v19 w =>
  condK v19
  (kN P (callN (.func (.func 33) #[] #[]) #[]) w fun v20 w =>
  joinL (fun J2 =>
  kV P (Instr.fieldAt 40 v1 3) w fun v21 w =>
  kV P (Instr.loadAt 3 v21) w fun v22 w =>
  kV P (binV .geq 3 (.tmp 22) (.const (.int .i64 1)) v22 (.int .i64 1)) w fun v23 w =>
  joinK (fun J4 : Value → World → Prop => gdK (yb v23) true (fun k => kV P (Instr.fieldAt 40 v1 3) w k) w fun v25 w =>
  gdK (yb v23) true (fun k => kV P (Instr.loadAt 3 v25) w k) w fun v26 w =>
  gdK (yb v23) true (fun k => k v20 w) w fun v27 w =>
  gdK (yb v23) true (fun k => kV P (Builtin.len_ #[73] 3 #[v27]) w k) w fun v28 w =>
  gdK (yb v23) true (fun k => kV P (binV .leq 3 (.tmp 26) (.tmp 28) v26 v28) w k) w fun v29 w =>
  kN P (pickN v23 v29 (.bool false)) w fun v30_1 w =>
  J4 v30_1 w) fun v30 w =>
  condK v30
  (kV P (Instr.fieldAt 40 v1 3) w fun v32 w =>
  kV P (Instr.loadAt 3 v32) w fun v33 w =>
  kV P (binV .sub 3 (.tmp 33) (.const (.int .i64 1)) v33 (.int .i64 1)) w fun v34 w =>
  kV P (Instr.indexAt 73 v20 v34) w fun v35 w =>
  kV P (Instr.fieldAt 77 v35 0) w fun v36 w =>
  kV P (Instr.loadAt 9 v36) w fun v37 w =>
  J2 [v37] w)
  (J2 [(.string ⟨#[]⟩)] w)) fun s2 w => ∀ _ : Nat → Value,
  kV P (binV .add 9 (.tmp 38) (.tmp 39) (s0.getD 0 undef) (s2.getD 0 undef)) w fun v40 w =>
  kV P (binV .add 9 (.tmp 40) (.const (.string ⟨#[32]⟩)) v40 (.string ⟨#[32]⟩)) w fun v41 w =>
  kV P (Instr.fieldAt 40 v1 5) w fun v42 w =>
  kV P (Instr.loadAt 38 v42) w fun v43 w =>
  kN P (callN (.func (.func 34) #[] #[]) #[v43]) w fun v44 w =>
  kV P (binV .add 9 (.tmp 41) (.tmp 44) v41 v44) w fun v45 w =>
  kV P (binV .add 9 (.tmp 45) (.const (.string ⟨#[10]⟩)) v45 (.string ⟨#[10]⟩)) w fun v46 w =>
  K v46 w)
  (kV P (binV .eql 3 (.tmp 17) (.const (.int .i64 1)) v17 (.int .i64 1)) w fun v48 w =>
  condK v48
  (drewK (fun w =>
  parR (fun I =>
  pV P (binV .add 9 (.tmp 49) (.const (.string ⟨#[99, 97, 108, 108, 32]⟩)) (s0.getD 0 undef) (.string ⟨#[99, 97, 108, 108, 32]⟩)) fun v50 =>
  pV P (Instr.fieldAt 40 v1 3) fun v51 =>
  iV P I (Instr.loadAt 3 v51) fun v52 =>
  iN P I (callN (.func (.func 31) #[] #[]) #[v52]) fun v53 =>
  pV P (binV .add 9 (.tmp 50) (.tmp 53) v50 v53) fun v54 =>
  pV P (binV .add 9 (.tmp 54) (.const (.string ⟨#[32]⟩)) v54 (.string ⟨#[32]⟩)) fun v55 =>
  pV P (Instr.fieldAt 40 v1 4) fun v56 =>
  iV P I (Instr.loadAt 3 v56) fun v57 =>
  iN P I (callN (.func (.func 31) #[] #[]) #[v57]) fun v58 =>
  pV P (binV .add 9 (.tmp 55) (.tmp 58) v55 v58) fun v59 =>
  pV P (binV .add 9 (.tmp 59) (.const (.string ⟨#[32]⟩)) v59 (.string ⟨#[32]⟩)) fun v60 =>
  pV P (Instr.fieldAt 40 v1 5) fun v61 =>
  iV P I (Instr.loadAt 38 v61) fun v62 =>
  iN P I (callN (.func (.func 34) #[] #[]) #[v62]) fun v63 =>
  pV P (binV .add 9 (.tmp 60) (.tmp 63) v60 v63) fun v64 =>
  pV P (binV .add 9 (.tmp 64) (.const (.string ⟨#[10]⟩)) v64 (.string ⟨#[10]⟩)) fun v65 =>
  allI I fun w =>
  K v65 w) w) w)
  (kV P (binV .eql 3 (.tmp 17) (.const (.int .i64 2)) v17 (.int .i64 2)) w fun v67 w =>
  condK v67
  (kV P (binV .add 9 (.tmp 68) (.const (.string ⟨#[101, 110, 100, 32]⟩)) (s0.getD 0 undef) (.string ⟨#[101, 110, 100, 32]⟩)) w fun v69 w =>
  kV P (Instr.fieldAt 40 v1 4) w fun v70 w =>
  kV P (Instr.loadAt 3 v70) w fun v71 w =>
  kN P (callN (.func (.func 31) #[] #[]) #[v71]) w fun v72 w =>
  kV P (binV .add 9 (.tmp 69) (.tmp 72) v69 v72) w fun v73 w =>
  kV P (binV .add 9 (.tmp 73) (.const (.string ⟨#[10]⟩)) v73 (.string ⟨#[10]⟩)) w fun v74 w =>
  K v74 w)
  (kV P (binV .eql 3 (.tmp 17) (.const (.int .i64 3)) v17 (.int .i64 3)) w fun v76 w =>
  condK v76
  (kV P (binV .add 9 (.tmp 77) (.const (.string ⟨#[107, 105, 108, 108, 32]⟩)) (s0.getD 0 undef) (.string ⟨#[107, 105, 108, 108, 32]⟩)) w fun v78 w =>
  kV P (Instr.fieldAt 40 v1 4) w fun v79 w =>
  kV P (Instr.loadAt 3 v79) w fun v80 w =>
  kN P (callN (.func (.func 31) #[] #[]) #[v80]) w fun v81 w =>
  kV P (binV .add 9 (.tmp 78) (.tmp 81) v78 v81) w fun v82 w =>
  kV P (binV .add 9 (.tmp 82) (.const (.string ⟨#[10]⟩)) v82 (.string ⟨#[10]⟩)) w fun v83 w =>
  K v83 w)
  (kV P (binV .add 9 (.tmp 84) (.const (.string ⟨#[63, 10]⟩)) (s0.getD 0 undef) (.string ⟨#[63, 10]⟩)) w fun v85 w =>
  K v85 w))))
theorem G14_eq (P : Program) (t0 : Value) (w : World) (K : Value → World → Prop) : funE P ⟨[(1, 998), (10, 998)], [], [(2, [3]), (8, [4])]⟩ Try.f14 [t0] w K = G14 P t0 w K := by kernel_rfl
theorem G14_ok (t0 : Value) (w : World) (K : Value → World → Prop) (h : G14 Try.prog t0 w K) : callsK Try.prog 14 #[t0] w K := calls_of_eq mixedC Try.func14 (G14_eq _ t0 w K) h

/-- mintmark/script.Text -/
def G15 (P : Program) (t0 : Value) (w : World) (K : Value → World → Prop) : Prop :=
  kV P (Instr.box 35 t0) w fun v1 w =>
  joinL (fun J0 =>
  drewK (fun w =>
  parR (fun I =>
  pV P (Instr.fieldAt 35 v1 0) fun v4 =>
  iV P I (Instr.loadAt 3 v4) fun v5 =>
  iN P I (callN (.func (.func 35) #[] #[]) #[v5]) fun v6 =>
  pV P (binV .add 9 (.const (.string ⟨#[112]⟩)) (.tmp 6) (.string ⟨#[112]⟩) v6) fun v7 =>
  pV P (Instr.fieldAt 35 v1 2) fun v8 =>
  iV P I (Instr.loadAt 28 v8) fun v9 =>
  iN P I (callN (.func (.func 36) #[] #[]) #[v9, (.int .u64 16)]) fun v10 =>
  iV P I (Instr.buildSlice 69 2 #[(0, v7), (1, v10)]) fun v11 =>
  allI I fun w =>
  J0 [v11] w) w) w) fun s0 w => ∀ _ : Nat → Value,
  joinL (fun J2 =>
  kV P (Instr.fieldAt 35 v1 1) w fun v12 w =>
  kV P (Instr.loadAt 3 v12) w fun v13 w =>
  kV P (binV .eql 3 (.tmp 13) (.const (.int .i64 0)) v13 (.int .i64 0)) w fun v18 w =>
  condK v18
  (drewK (fun w =>
  parR (fun I =>
  pV P (Instr.fieldAt 35 v1 3) fun v20 =>
  iV P I (Instr.loadAt 3 v20) fun v21 =>
  iN P I (callN (.func (.func 37) #[] #[]) #[v21]) fun v22 =>
  pV P (Instr.fieldAt 35 v1 5) fun v23 =>
  iV P I (Instr.loadAt 33 v23) fun v24 =>
  iN P I (callN (.func (.func 38) #[] #[]) #[v24]) fun v25 =>
  iV P I (Instr.buildSlice 69 2 #[(0, v22), (1, v25)]) fun v26 =>
  iV P I (Builtin.append_ #[69, 69] 69 #[(s0.getD 0 undef), v26]) fun v27 =>
  allI I fun w =>
  J2 [v27] w) w) w)
  (kV P (binV .eql 3 (.tmp 13) (.const (.int .i64 1)) v13 (.int .i64 1)) w fun v29 w =>
  condK v29
  (drewK (fun w =>
  parR (fun I =>
  pV P (Instr.fieldAt 35 v1 3) fun v31 =>
  iV P I (Instr.loadAt 3 v31) fun v32 =>
  iN P I (callN (.func (.func 35) #[] #[]) #[v32]) fun v33 =>
  pV P (Instr.fieldAt 35 v1 4) fun v34 =>
  iV P I (Instr.loadAt 3 v34) fun v35 =>
  iN P I (callN (.func (.func 35) #[] #[]) #[v35]) fun v36 =>
  pV P (Instr.fieldAt 35 v1 5) fun v37 =>
  iV P I (Instr.loadAt 33 v37) fun v38 =>
  iN P I (callN (.func (.func 38) #[] #[]) #[v38]) fun v39 =>
  iV P I (Instr.buildSlice 69 4 #[(0, (.string ⟨#[99, 97, 108, 108]⟩)), (1, v33), (2, v36), (3, v39)]) fun v40 =>
  iV P I (Builtin.append_ #[69, 69] 69 #[(s0.getD 0 undef), v40]) fun v41 =>
  allI I fun w =>
  J2 [v41] w) w) w)
  (kV P (binV .eql 3 (.tmp 13) (.const (.int .i64 2)) v13 (.int .i64 2)) w fun v43 w =>
  condK v43
  (kV P (Instr.fieldAt 35 v1 4) w fun v45 w =>
  kV P (Instr.loadAt 3 v45) w fun v46 w =>
  kN P (callN (.func (.func 35) #[] #[]) #[v46]) w fun v47 w =>
  kV P (Instr.buildSlice 69 2 #[(0, (.string ⟨#[101, 110, 100]⟩)), (1, v47)]) w fun v48 w =>
  kV P (Builtin.append_ #[69, 69] 69 #[(s0.getD 0 undef), v48]) w fun v49 w =>
  J2 [v49] w)
  (kV P (binV .eql 3 (.tmp 13) (.const (.int .i64 3)) v13 (.int .i64 3)) w fun v51 w =>
  condK v51
  (kV P (Instr.fieldAt 35 v1 4) w fun v53 w =>
  kV P (Instr.loadAt 3 v53) w fun v54 w =>
  kN P (callN (.func (.func 35) #[] #[]) #[v54]) w fun v55 w =>
  kV P (Instr.buildSlice 69 2 #[(0, (.string ⟨#[107, 105, 108, 108]⟩)), (1, v55)]) w fun v56 w =>
  kV P (Builtin.append_ #[69, 69] 69 #[(s0.getD 0 undef), v56]) w fun v57 w =>
  J2 [v57] w)
  (kV P (Instr.buildSlice 69 1 #[(0, (.string ⟨#[63]⟩))]) w fun v15 w =>
  kV P (Builtin.append_ #[69, 69] 69 #[(s0.getD 0 undef), v15]) w fun v16 w =>
  J2 [v16] w))))) fun s2 w => ∀ _ : Nat → Value,
  kN P (callN (.func (.func 26) #[] #[]) #[(s2.getD 0 undef), (.string ⟨#[32]⟩)]) w fun v59 w =>
  kV P (binV .add 9 (.tmp 59) (.const (.string ⟨#[10]⟩)) v59 (.string ⟨#[10]⟩)) w fun v60 w =>
  K v60 w
theorem G15_eq (P : Program) (t0 : Value) (w : World) (K : Value → World → Prop) : funE P ⟨[(1, 998), (7, 998), (5, 998)], [], [(2, [3]), (12, [3])]⟩ Try.f15 [t0] w K = G15 P t0 w K := by kernel_rfl
theorem G15_ok (t0 : Value) (w : World) (K : Value → World → Prop) (h : G15 Try.prog t0 w K) : callsK Try.prog 15 #[t0] w K := calls_of_eq mixedC Try.func15 (G15_eq _ t0 w K) h

end Go.Proofs.Ytgnibcaflidjmaa
