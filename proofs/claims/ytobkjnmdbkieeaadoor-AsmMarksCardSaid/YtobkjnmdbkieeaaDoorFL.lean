/- The formulas of functions of this seat, each tied to its calls; conditions: none. -/
import Derived.Test.YtobkjnmdbkieeaaDoorProg
import Derived.Test.YtobkjnmdbkieeaaDoorFx
import Derived.KernelRfl
namespace Go.Proofs.YtobkjnmdbkieeaaDoor
open Go.Fx
set_option linter.unusedVariables false
set_option linter.constructorNameAsVariable false
set_option maxRecDepth 100000
theorem mixedL : Tryd.prog.follows .mixedOrders = true := by kernel_rfl
/-- mintmark/mintmarklaw14.AsmBack -/
def F3 (P : Program) (t0 : Value) (w : World) (K : Value → World → Prop) : Prop :=
  joinL (fun J0 =>
  kV P (Builtin.len_ #[22] 3 #[t0]) w fun v18 w =>
  kV P (binV .gtr 3 (.tmp 18) (.const (.int .i64 100)) v18 (.int .i64 100)) w fun v19 w =>
  condK v19
  (kV P (Instr.sliceAt 22 t0 none (some (.int .i64 100)) none) w fun v21 w =>
  J0 [v21] w)
  (J0 [t0] w)) fun s0 w => ∀ _ : Nat → Value,
  loopT (fun R2 s2 w => ∀ _ : Nat → Value,
  kV P (Builtin.len_ #[22] 3 #[(s0.getD 0 undef)]) w fun v24 w =>
  kV P (binV .lss 3 (.tmp 22) (.tmp 24) (s2.getD 2 undef) v24) w fun v25 w =>
  condK v25
  (joinL (fun J4 =>
  kV P (Instr.indexAt 22 (s0.getD 0 undef) (s2.getD 2 undef)) w fun v31 w =>
  kV P (Instr.loadAt 28 v31) w fun v32 w =>
  kN P (callN (.func (.func 5) #[] #[]) #[v32]) w fun v33 w =>
  kV P (Instr.extract v33 0) w fun v34 w =>
  kV P (Instr.extract v33 1) w fun v35 w =>
  kV P (Instr.indexAt 22 (s0.getD 0 undef) (s2.getD 2 undef)) w fun v38 w =>
  kV P (Instr.loadAt 28 v38) w fun v39 w =>
  kN P (callN (.func (.func 6) #[] #[]) #[v39]) w fun v40 w =>
  kN P (callN (.func (.func 7) #[] #[]) #[v40]) w fun v43 w =>
  kV P (Instr.extract v43 0) w fun v44 w =>
  kV P (Instr.extract v43 1) w fun v45 w =>
  kV P (Instr.alloc 28 true (.tuple #[])) w fun v9 w =>
  kU P (Instr.storeAt 28 v9 v44) w fun _ w =>
  kV P (binV .neq 4 (.tmp 46) (.tmp 47) v35 v45) w fun v48 w =>
  joinK (fun J6 : Value → World → Prop => gdK (yb v48) false (fun k => k v35 w) w fun v50 w =>
  gdK (yb v48) false (fun k => k v40 w) w fun v51 w =>
  gdK (yb v48) false (fun k => kV P (binV .neq 9 (.tmp 51) (.const (.string ⟨#[]⟩)) v51 (.string ⟨#[]⟩)) w k) w fun v52 w =>
  gdK (yb v48) false (fun k => kV P (binV .neq 4 (.tmp 50) (.tmp 52) v50 v52) w k) w fun v53 w =>
  kN P (pickN v48 (.bool true) v53) w fun v54_1 w =>
  J6 v54_1 w) fun v54 w =>
  condK v54
  (K (.bool false) w)
  (kV P (Op.unary .not v35) w fun v56 w =>
  condK v56
  (J4 [(s2.getD 0 undef), (s2.getD 1 undef)] w)
  (kV P (Instr.loadAt 28 v9) w fun v58 w =>
  kN P (callN (.func (.func 5) #[] #[]) #[v58]) w fun v59 w =>
  kV P (Instr.extract v59 0) w fun v60 w =>
  kV P (Instr.extract v59 1) w fun v61 w =>
  kV P (binV .neq 24 (.tmp 62) (.tmp 63) v60 v34) w fun v64 w =>
  joinK (fun J7 : Value → World → Prop => gdK (yb v64) false (fun k => kV P (Instr.loadAt 28 v9) w k) w fun v66 w =>
  gdK (yb v64) false (fun k => kN P (callN (.func (.func 6) #[] #[]) #[v66]) w k) w fun v67 w =>
  gdK (yb v64) false (fun k => k v40 w) w fun v68 w =>
  gdK (yb v64) false (fun k => kV P (binV .neq 9 (.tmp 67) (.tmp 68) v67 v68) w k) w fun v69 w =>
  kN P (pickN v64 (.bool true) v69) w fun v70_1 w =>
  J7 v70_1 w) fun v70 w =>
  condK v70
  (K (.bool false) w)
  (kV P (binV .add 9 (.tmp 71) (.const (.string ⟨#[32, 32]⟩)) (s2.getD 0 undef) (.string ⟨#[32, 32]⟩)) w fun v72 w =>
  kV P (binV .add 9 (.tmp 72) (.tmp 73) v72 v40) w fun v74 w =>
  kV P (binV .add 9 (.tmp 74) (.const (.string ⟨#[10]⟩)) v74 (.string ⟨#[10]⟩)) w fun v75 w =>
  kV P (Instr.buildSlice 23 1 #[(0, v34)]) w fun v78 w =>
  kV P (Builtin.append_ #[23, 23] 23 #[(s2.getD 1 undef), v78]) w fun v79 w =>
  J4 [v75, v79] w)))) fun s4 w => ∀ _ : Nat → Value,
  kV P (binV .add 3 (.tmp 26) (.const (.int .i64 1)) (s2.getD 2 undef) (.int .i64 1)) w fun v27 w =>
  R2 [(s4.getD 0 undef), (s4.getD 1 undef), v27] w)
  (kN P (callN (.func (.func 8) #[] #[]) #[(s2.getD 0 undef)]) w fun v82 w =>
  kV P (Instr.extract v82 0) w fun v83 w =>
  kV P (Instr.extract v82 1) w fun v84 w =>
  kV P (Instr.extract v82 2) w fun v85 w =>
  kV P (binV .neq 32 (.tmp 86) (.const (.int .i64 0)) v85 (.int .i64 0)) w fun v87 w =>
  joinK (fun J8 : Value → World → Prop => gdK (yb v87) false (fun k => k v84 w) w fun v89 w =>
  gdK (yb v87) false (fun k => kV P (binV .neq 3 (.tmp 89) (.const (.int .i64 0)) v89 (.int .i64 0)) w k) w fun v90 w =>
  kN P (pickN v87 (.bool true) v90) w fun v91_1 w =>
  J8 v91_1 w) fun v91 w =>
  joinK (fun J9 : Value → World → Prop => gdK (yb v91) false (fun k => k v83 w) w fun v93 w =>
  gdK (yb v91) false (fun k => kV P (Builtin.len_ #[23] 3 #[v93]) w k) w fun v94 w =>
  gdK (yb v91) false (fun k => k (s2.getD 1 undef) w) w fun v95 w =>
  gdK (yb v91) false (fun k => kV P (Builtin.len_ #[23] 3 #[v95]) w k) w fun v96 w =>
  gdK (yb v91) false (fun k => kV P (binV .neq 3 (.tmp 94) (.tmp 96) v94 v96) w k) w fun v97 w =>
  kN P (pickN v91 (.bool true) v97) w fun v98_1 w =>
  J9 v98_1 w) fun v98 w =>
  condK v98
  (K (.bool false) w)
  (loopT (fun R10 s10 w => ∀ _ : Nat → Value,
  kV P (Builtin.len_ #[23] 3 #[v83]) w fun v101 w =>
  kV P (binV .lss 3 (.tmp 99) (.tmp 101) (s10.getD 0 undef) v101) w fun v102 w =>
  condK v102
  (drewK (fun w =>
  sV P (Instr.indexAt 23 v83 (s10.getD 0 undef)) w fun v107 =>
  sV P (Instr.loadAt 24 v107) w fun v108 =>
  sV P (Instr.indexAt 23 (s2.getD 1 undef) (s10.getD 0 undef)) w fun v111 =>
  sV P (Instr.loadAt 24 v111) w fun v112 =>
  sV P (binV .neq 24 (.tmp 108) (.tmp 112) v108 v112) w fun v113 =>
  condK v113
  (K (.bool false) w)
  (kV P (binV .add 3 (.tmp 103) (.const (.int .i64 1)) (s10.getD 0 undef) (.int .i64 1)) w fun v104 w =>
  R10 [v104] w)) w)
  (kN P (callN (.func (.func 9) #[] #[]) #[]) w fun v114 w =>
  K v114 w)) [(.int .i64 0)] w))) [(.string ⟨#[]⟩), (.slice none 0 0), (.int .i64 0)] w
theorem F3_eq (P : Program) (t0 : Value) (w : World) (K : Value → World → Prop) : funE P ⟨[], [(6, [3, 4, 5]), (23, [16])], [(3, [0]), (7, [3, 4])]⟩ Tryd.f3 [t0] w K = F3 P t0 w K := by kernel_rfl
theorem F3_ok (t0 : Value) (w : World) (K : Value → World → Prop) (h : F3 Tryd.prog t0 w K) : callsK Tryd.prog 3 #[t0] w K := calls_of_eq mixedL Tryd.func3 (F3_eq _ t0 w K) h

/-- mintmark/mintmarklaw14.one -/
def F9 (P : Program) (w : World) (K : Value → World → Prop) : Prop :=
  kN P (callN (.func (.func 8) #[] #[]) #[(.string ⟨#[97, 58, 10, 97, 100, 100, 105, 32, 99, 49, 48, 44, 32, 99, 49, 48, 44, 32, 45, 49, 10, 98, 110, 101, 32, 99, 49, 48, 44, 32, 99, 48, 44, 32, 97]⟩)]) w fun v5 w =>
  kV P (Instr.extract v5 0) w fun v6 w =>
  kV P (Instr.extract v5 1) w fun v7 w =>
  kV P (Instr.extract v5 2) w fun v8 w =>
  kV P (binV .eql 32 (.tmp 9) (.const (.int .i64 0)) v8 (.int .i64 0)) w fun v10 w =>
  joinK (fun J0 : Value → World → Prop => gdK (yb v10) true (fun k => k v7 w) w fun v12 w =>
  gdK (yb v10) true (fun k => kV P (binV .eql 3 (.tmp 12) (.const (.int .i64 0)) v12 (.int .i64 0)) w k) w fun v13 w =>
  kN P (pickN v10 v13 (.bool false)) w fun v14_1 w =>
  J0 v14_1 w) fun v14 w =>
  joinK (fun J1 : Value → World → Prop => gdK (yb v14) true (fun k => k v6 w) w fun v16 w =>
  gdK (yb v14) true (fun k => kV P (Builtin.len_ #[23] 3 #[v16]) w k) w fun v17 w =>
  gdK (yb v14) true (fun k => kV P (binV .eql 3 (.tmp 17) (.const (.int .i64 2)) v17 (.int .i64 2)) w k) w fun v18 w =>
  kN P (pickN v14 v18 (.bool false)) w fun v19_1 w =>
  J1 v19_1 w) fun v19 w =>
  joinK (fun J2 : Value → World → Prop => gdK (yb v19) true (fun k => k v6 w) w fun v21 w =>
  gdK (yb v19) true (fun k => kV P (Instr.indexAt 23 v21 (.int .i64 0)) w k) w fun v22 w =>
  gdK (yb v19) true (fun k => kV P (Instr.loadAt 24 v22) w k) w fun v23 w =>
  gdK (yb v19) true (fun k => kV P (binV .eql 24 (.tmp 23) (.const (.int .u32 4294247699)) v23 (.int .u32 4294247699)) w k) w fun v24 w =>
  kN P (pickN v19 v24 (.bool false)) w fun v25_1 w =>
  J2 v25_1 w) fun v25 w =>
  joinK (fun J3 : Value → World → Prop => gdK (yb v25) true (fun k => k v6 w) w fun v27 w =>
  gdK (yb v25) true (fun k => kV P (Instr.indexAt 23 v27 (.int .i64 1)) w k) w fun v28 w =>
  gdK (yb v25) true (fun k => kV P (Instr.loadAt 24 v28) w k) w fun v29 w =>
  gdK (yb v25) true (fun k => kV P (binV .eql 24 (.tmp 29) (.const (.int .u32 4261748451)) v29 (.int .u32 4261748451)) w k) w fun v30 w =>
  kN P (pickN v25 v30 (.bool false)) w fun v31_1 w =>
  J3 v31_1 w) fun v31 w =>
  K v31 w
theorem F9_eq (P : Program) (w : World) (K : Value → World → Prop) : funE P ⟨[], [], []⟩ Tryd.f9 [] w K = F9 P  w K := by kernel_rfl
theorem F9_ok (w : World) (K : Value → World → Prop) (h : F9 Tryd.prog  w K) : callsK Tryd.prog 9 #[] w K := calls_of_eq mixedL Tryd.func9 (F9_eq _  w K) h

end Go.Proofs.YtobkjnmdbkieeaaDoor
