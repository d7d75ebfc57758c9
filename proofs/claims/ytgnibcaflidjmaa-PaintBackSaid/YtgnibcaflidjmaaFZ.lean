/- The formulas of functions of this seat, each tied to its calls; conditions: none. -/
import Derived.Test.YtgnibcaflidjmaaProg
import Derived.Test.YtgnibcaflidjmaaFx
import Derived.KernelRfl
namespace Go.Proofs.Ytgnibcaflidjmaa
open Go.Fx
set_option linter.unusedVariables false
set_option linter.constructorNameAsVariable false
set_option maxRecDepth 100000
theorem mixedZ : Try.prog.follows .mixedOrders = true := by kernel_rfl
/-- slices.Sort[[]uint64,uint64] -/
def F68 (P : Program) (t0 : Value) (w : World) (K : Value → World → Prop) : Prop :=
  kV P (Builtin.len_ #[93] 3 #[t0]) w fun v4 w =>
  kV P (convert 3 129 v4) w fun v8 w =>
  kN P (callN (.func (.func 86) #[] #[]) #[v8]) w fun v9 w =>
  kN P (callN (.func (.func 85) #[] #[]) #[t0, (.int .i64 0), v4, v9]) w fun v10 w =>
  K (.tuple #[]) w
theorem F68_eq (P : Program) (t0 : Value) (w : World) (K : Value → World → Prop) : funE P ⟨[], [], []⟩ Try.f68 [t0] w K = F68 P t0 w K := by kernel_rfl
theorem F68_ok (t0 : Value) (w : World) (K : Value → World → Prop) (h : F68 Try.prog t0 w K) : callsK Try.prog 68 #[t0] w K := calls_of_eq mixedZ Try.func68 (F68_eq _ t0 w K) h

/-- slices.pdqsortOrdered[uint64] -/
def F85 (P : Program) (t0 t1 t2 t3 : Value) (w : World) (K : Value → World → Prop) : Prop :=
  loopT (fun R0 s0 w => ∀ _ : Nat → Value,
  kV P (binV .sub 3 (.tmp 19) (.tmp 20) (s0.getD 4 undef) (s0.getD 1 undef)) w fun v21 w =>
  kV P (binV .leq 3 (.tmp 22) (.const (.int .i64 12)) v21 (.int .i64 12)) w fun v23 w =>
  condK v23
  (kN P (callN (.func (.func 97) #[] #[]) #[t0, (s0.getD 1 undef), (s0.getD 4 undef)]) w fun v27 w =>
  K (.tuple #[]) w)
  (kV P (binV .eql 3 (.tmp 28) (.const (.int .i64 0)) (s0.getD 0 undef) (.int .i64 0)) w fun v29 w =>
  condK v29
  (kN P (callN (.func (.func 98) #[] #[]) #[t0, (s0.getD 1 undef), (s0.getD 4 undef)]) w fun v33 w =>
  K (.tuple #[]) w)
  (joinL (fun J2 =>
  kV P (Op.unary .not (s0.getD 3 undef)) w fun v35 w =>
  condK v35
  (kN P (callN (.func (.func 99) #[] #[]) #[t0, (s0.getD 1 undef), (s0.getD 4 undef)]) w fun v39 w =>
  kV P (binV .sub 3 (.tmp 40) (.const (.int .i64 1)) (s0.getD 0 undef) (.int .i64 1)) w fun v41 w =>
  J2 [v41] w)
  (J2 [(s0.getD 0 undef)] w)) fun s2 w => ∀ _ : Nat → Value,
  kN P (callN (.func (.func 100) #[] #[]) #[t0, (s0.getD 1 undef), (s0.getD 4 undef)]) w fun v46 w =>
  kV P (Instr.extract v46 0) w fun v47 w =>
  kV P (Instr.extract v46 1) w fun v48 w =>
  joinL (fun J4 =>
  kV P (binV .eql 158 (.tmp 49) (.const (.int .i64 2)) v48 (.int .i64 2)) w fun v50 w =>
  condK v50
  (kN P (callN (.func (.func 101) #[] #[]) #[t0, (s0.getD 1 undef), (s0.getD 4 undef)]) w fun v54 w =>
  kV P (binV .sub 3 (.tmp 55) (.const (.int .i64 1)) (s0.getD 4 undef) (.int .i64 1)) w fun v56 w =>
  kV P (binV .sub 3 (.tmp 57) (.tmp 58) v47 (s0.getD 1 undef)) w fun v59 w =>
  kV P (binV .sub 3 (.tmp 56) (.tmp 59) v56 v59) w fun v60 w =>
  J4 [v60, (.int .i64 1)] w)
  (J4 [v47, v48] w)) fun s4 w => ∀ _ : Nat → Value,
  joinL (fun J6 =>
  joinK (fun J9 : Value → World → Prop => gdK (yb (s0.getD 3 undef)) true (fun k => k (s0.getD 2 undef) w) w fun v63 w =>
  kN P (pickN (s0.getD 3 undef) v63 (.bool false)) w fun v64_1 w =>
  J9 v64_1 w) fun v64 w =>
  joinK (fun J10 : Value → World → Prop => gdK (yb v64) true (fun k => k (s4.getD 1 undef) w) w fun v66 w =>
  gdK (yb v64) true (fun k => kV P (binV .eql 158 (.tmp 66) (.const (.int .i64 1)) v66 (.int .i64 1)) w k) w fun v67 w =>
  kN P (pickN v64 v67 (.bool false)) w fun v68_1 w =>
  J10 v68_1 w) fun v68 w =>
  condK v68
  (kN P (callN (.func (.func 102) #[] #[]) #[t0, (s0.getD 1 undef), (s0.getD 4 undef)]) w fun v72 w =>
  condK v72
  (K (.tuple #[]) w)
  (J6 [] w))
  (J6 [] w)) fun s6 w => ∀ _ : Nat → Value,
  drewK (fun w =>
  sV P (binV .gtr 3 (.tmp 73) (.const (.int .i64 0)) (s0.getD 1 undef) (.int .i64 0)) w fun v74 =>
  gdS (yb v74) true (fun k => k t0) fun v76 =>
  gdS (yb v74) true (fun k => k (s0.getD 1 undef)) fun v77 =>
  gdS (yb v74) true (fun k => sV P (binV .sub 3 (.tmp 77) (.const (.int .i64 1)) v77 (.int .i64 1)) w k) fun v78 =>
  gdS (yb v74) true (fun k => sV P (Instr.indexAt 93 v76 v78) w k) fun v79 =>
  gdS (yb v74) true (fun k => sV P (Instr.loadAt 28 v79) w k) fun v80 =>
  gdS (yb v74) true (fun k => k t0) fun v81 =>
  gdS (yb v74) true (fun k => k (s4.getD 0 undef)) fun v82 =>
  gdS (yb v74) true (fun k => sV P (Instr.indexAt 93 v81 v82) w k) fun v83 =>
  gdS (yb v74) true (fun k => sV P (Instr.loadAt 28 v83) w k) fun v84 =>
  joinK (fun J8 : Value → World → Prop => gdK (yb v74) true (fun k => kN P (callN (.func (.func 103) #[] #[]) #[v80, v84]) w k) w fun v85 w =>
  gdK (yb v74) true (fun k => kV P (Op.unary .not v85) w k) w fun v86 w =>
  kN P (pickN v74 v86 (.bool false)) w fun v87_1 w =>
  J8 v87_1 w) fun v87 w =>
  condK v87
  (kN P (callN (.func (.func 104) #[] #[]) #[t0, (s0.getD 1 undef), (s0.getD 4 undef), (s4.getD 0 undef)]) w fun v92 w =>
  R0 [(s2.getD 0 undef), v92, (s0.getD 2 undef), (s0.getD 3 undef), (s0.getD 4 undef)] w)
  (kN P (callN (.func (.func 105) #[] #[]) #[t0, (s0.getD 1 undef), (s0.getD 4 undef), (s4.getD 0 undef)]) w fun v99 w =>
  kV P (Instr.extract v99 0) w fun v100 w =>
  kV P (Instr.extract v99 1) w fun v101 w =>
  kV P (binV .sub 3 (.tmp 103) (.tmp 104) v100 (s0.getD 1 undef)) w fun v105 w =>
  kV P (binV .sub 3 (.tmp 106) (.tmp 107) (s0.getD 4 undef) v100) w fun v108 w =>
  kV P (binV .quo 3 (.tmp 109) (.const (.int .i64 8)) v21 (.int .i64 8)) w fun v110 w =>
  kV P (binV .lss 3 (.tmp 111) (.tmp 112) v105 v108) w fun v113 w =>
  condK v113
  (kV P (binV .geq 3 (.tmp 114) (.tmp 115) v105 v110) w fun v116 w =>
  kN P (callN (.func (.func 85) #[] #[]) #[t0, (s0.getD 1 undef), v100, (s2.getD 0 undef)]) w fun v121 w =>
  kV P (binV .add 3 (.tmp 122) (.const (.int .i64 1)) v100 (.int .i64 1)) w fun v123 w =>
  R0 [(s2.getD 0 undef), v123, v101, v116, (s0.getD 4 undef)] w)
  (kV P (binV .geq 3 (.tmp 124) (.tmp 125) v108 v110) w fun v126 w =>
  kV P (binV .add 3 (.tmp 128) (.const (.int .i64 1)) v100 (.int .i64 1)) w fun v129 w =>
  kN P (callN (.func (.func 85) #[] #[]) #[t0, v129, (s0.getD 4 undef), (s2.getD 0 undef)]) w fun v132 w =>
  R0 [(s2.getD 0 undef), (s0.getD 1 undef), v101, v126, v100] w))) w))) [t3, t1, (.bool true), (.bool true), t2] w
theorem F85_eq (P : Program) (t0 t1 t2 t3 : Value) (w : World) (K : Value → World → Prop) : funE P ⟨[(17, 12)], [(2, [3, 1, 9, 8, 2])], [(10, [3]), (15, [11, 12]), (17, [])]⟩ Try.f85 [t0, t1, t2, t3] w K = F85 P t0 t1 t2 t3 w K := by kernel_rfl
theorem F85_ok (t0 t1 t2 t3 : Value) (w : World) (K : Value → World → Prop) (h : F85 Try.prog t0 t1 t2 t3 w K) : callsK Try.prog 85 #[t0, t1, t2, t3] w K := calls_of_eq mixedZ Try.func85 (F85_eq _ t0 t1 t2 t3 w K) h

/-- math/bits.Len -/
def F86 (P : Program) (t0 : Value) (w : World) (K : Value → World → Prop) : Prop :=
  condK (.bool false)
  (kV P (convert 129 75 t0) w fun v4 w =>
  kN P (callN (.func (.func 106) #[] #[]) #[v4]) w fun v5 w =>
  K v5 w)
  (kN P (callN (.func (.func 107) #[] #[]) #[t0]) w fun v7 w =>
  K v7 w)
theorem F86_eq (P : Program) (t0 : Value) (w : World) (K : Value → World → Prop) : funE P ⟨[], [], []⟩ Try.f86 [t0] w K = F86 P t0 w K := by kernel_rfl
theorem F86_ok (t0 : Value) (w : World) (K : Value → World → Prop) (h : F86 Try.prog t0 w K) : callsK Try.prog 86 #[t0] w K := calls_of_eq mixedZ Try.func86 (F86_eq _ t0 w K) h

/-- slices.insertionSortOrdered[uint64] -/
def F97 (P : Program) (t0 t1 t2 : Value) (w : World) (K : Value → World → Prop) : Prop :=
  kV P (binV .add 3 (.tmp 8) (.const (.int .i64 1)) t1 (.int .i64 1)) w fun v9 w =>
  loopT (fun R0 s0 w => ∀ _ : Nat → Value,
  kV P (binV .lss 3 (.tmp 10) (.tmp 11) (s0.getD 0 undef) t2) w fun v12 w =>
  condK v12
  (loopT (fun R2 s2 w => ∀ _ : Nat → Value,
  drewK (fun w =>
  sV P (binV .gtr 3 (.tmp 16) (.tmp 17) (s2.getD 0 undef) t1) w fun v18 =>
  gdS (yb v18) true (fun k => k t0) fun v20 =>
  gdS (yb v18) true (fun k => k (s2.getD 0 undef)) fun v21 =>
  gdS (yb v18) true (fun k => sV P (Instr.indexAt 93 v20 v21) w k) fun v22 =>
  gdS (yb v18) true (fun k => sV P (Instr.loadAt 28 v22) w k) fun v23 =>
  gdS (yb v18) true (fun k => k t0) fun v24 =>
  gdS (yb v18) true (fun k => k (s2.getD 0 undef)) fun v25 =>
  gdS (yb v18) true (fun k => sV P (binV .sub 3 (.tmp 25) (.const (.int .i64 1)) v25 (.int .i64 1)) w k) fun v26 =>
  gdS (yb v18) true (fun k => sV P (Instr.indexAt 93 v24 v26) w k) fun v27 =>
  gdS (yb v18) true (fun k => sV P (Instr.loadAt 28 v27) w k) fun v28 =>
  joinK (fun J4 : Value → World → Prop => gdK (yb v18) true (fun k => kN P (callN (.func (.func 103) #[] #[]) #[v23, v28]) w k) w fun v29 w =>
  kN P (pickN v18 v29 (.bool false)) w fun v30_1 w =>
  J4 v30_1 w) fun v30 w =>
  condK v30
  (joinL (fun J5 =>
  drewK (fun w =>
  pV P (binV .sub 3 (.tmp 36) (.const (.int .i64 1)) (s2.getD 0 undef) (.int .i64 1)) fun v37 =>
  pV P (binV .sub 3 (.tmp 39) (.const (.int .i64 1)) (s2.getD 0 undef) (.int .i64 1)) fun v40 =>
  pV P (Instr.indexAt 93 t0 v40) fun v41 =>
  pV P (Instr.indexAt 93 t0 (s2.getD 0 undef)) fun v45 =>
  (kV P (Instr.loadAt 28 v41) w fun v42 w =>
  kV P (Instr.loadAt 28 v45) w fun v46 w =>
  pV P (Instr.indexAt 93 t0 (s2.getD 0 undef)) fun v47 =>
  kU P (Instr.storeAt 28 v47 v42) w fun _ w =>
  pV P (Instr.indexAt 93 t0 v37) fun v48 =>
  kU P (Instr.storeAt 28 v48 v46) w fun _ w =>
  J5 [] w) ∧
  (kV P (Instr.loadAt 28 v45) w fun v46_1 w =>
  kV P (Instr.loadAt 28 v41) w fun v42_1 w =>
  pV P (Instr.indexAt 93 t0 (s2.getD 0 undef)) fun v47_1 =>
  kU P (Instr.storeAt 28 v47_1 v42_1) w fun _ w =>
  pV P (Instr.indexAt 93 t0 v37) fun v48_1 =>
  kU P (Instr.storeAt 28 v48_1 v46_1) w fun _ w =>
  J5 [] w)) w) fun s5 w => ∀ _ : Nat → Value,
  kV P (binV .sub 3 (.tmp 31) (.const (.int .i64 1)) (s2.getD 0 undef) (.int .i64 1)) w fun v32 w =>
  R2 [v32] w)
  (kV P (binV .add 3 (.tmp 13) (.const (.int .i64 1)) (s0.getD 0 undef) (.int .i64 1)) w fun v14 w =>
  R0 [v14] w)) w) [(s0.getD 0 undef)] w)
  (K (.tuple #[]) w)) [v9] w
theorem F97_eq (P : Program) (t0 t1 t2 : Value) (w : World) (K : Value → World → Prop) : funE P ⟨[(6, 999), (4, 13)], [(1, [6]), (4, [7])], [(5, [])]⟩ Try.f97 [t0, t1, t2] w K = F97 P t0 t1 t2 w K := by kernel_rfl
theorem F97_ok (t0 t1 t2 : Value) (w : World) (K : Value → World → Prop) (h : F97 Try.prog t0 t1 t2 w K) : callsK Try.prog 97 #[t0, t1, t2] w K := calls_of_eq mixedZ Try.func97 (F97_eq _ t0 t1 t2 w K) h

/-- slices.heapSortOrdered[uint64] -/
def F98 (P : Program) (t0 t1 t2 : Value) (w : World) (K : Value → World → Prop) : Prop :=
  kV P (binV .sub 3 (.tmp 12) (.tmp 13) t2 t1) w fun v14 w =>
  kV P (binV .sub 3 (.tmp 15) (.const (.int .i64 1)) v14 (.int .i64 1)) w fun v16 w =>
  kV P (binV .quo 3 (.tmp 16) (.const (.int .i64 2)) v16 (.int .i64 2)) w fun v17 w =>
  loopT (fun R0 s0 w => ∀ _ : Nat → Value,
  kV P (binV .geq 3 (.tmp 18) (.const (.int .i64 0)) (s0.getD 0 undef) (.int .i64 0)) w fun v19 w =>
  condK v19
  (kN P (callN (.func (.func 109) #[] #[]) #[t0, (s0.getD 0 undef), v14, t1]) w fun v26 w =>
  kV P (binV .sub 3 (.tmp 20) (.const (.int .i64 1)) (s0.getD 0 undef) (.int .i64 1)) w fun v21 w =>
  R0 [v21] w)
  (kV P (binV .sub 3 (.tmp 27) (.const (.int .i64 1)) v14 (.int .i64 1)) w fun v28 w =>
  loopT (fun R2 s2 w => ∀ _ : Nat → Value,
  kV P (binV .geq 3 (.tmp 29) (.const (.int .i64 0)) (s2.getD 0 undef) (.int .i64 0)) w fun v30 w =>
  condK v30
  (joinL (fun J4 =>
  drewK (fun w =>
  pV P (binV .add 3 (.tmp 36) (.tmp 37) t1 (s2.getD 0 undef)) fun v38 =>
  pV P (binV .add 3 (.tmp 40) (.tmp 41) t1 (s2.getD 0 undef)) fun v42 =>
  pV P (Instr.indexAt 93 t0 v42) fun v43 =>
  pV P (Instr.indexAt 93 t0 t1) fun v47 =>
  (kV P (Instr.loadAt 28 v43) w fun v44 w =>
  kV P (Instr.loadAt 28 v47) w fun v48 w =>
  pV P (Instr.indexAt 93 t0 t1) fun v49 =>
  kU P (Instr.storeAt 28 v49 v44) w fun _ w =>
  pV P (Instr.indexAt 93 t0 v38) fun v50 =>
  kU P (Instr.storeAt 28 v50 v48) w fun _ w =>
  J4 [] w) ∧
  (kV P (Instr.loadAt 28 v47) w fun v48_1 w =>
  kV P (Instr.loadAt 28 v43) w fun v44_1 w =>
  pV P (Instr.indexAt 93 t0 t1) fun v49_1 =>
  kU P (Instr.storeAt 28 v49_1 v44_1) w fun _ w =>
  pV P (Instr.indexAt 93 t0 v38) fun v50_1 =>
  kU P (Instr.storeAt 28 v50_1 v48_1) w fun _ w =>
  J4 [] w)) w) fun s4 w => ∀ _ : Nat → Value,
  kN P (callN (.func (.func 109) #[] #[]) #[t0, (.int .i64 0), (s2.getD 0 undef), t1]) w fun v55 w =>
  kV P (binV .sub 3 (.tmp 31) (.const (.int .i64 1)) (s2.getD 0 undef) (.int .i64 1)) w fun v32 w =>
  R2 [v32] w)
  (K (.tuple #[]) w)) [v28] w)) [v17] w
theorem F98_eq (P : Program) (t0 t1 t2 : Value) (w : World) (K : Value → World → Prop) : funE P ⟨[(10, 999)], [(4, [9]), (8, [10])], [(11, [])]⟩ Try.f98 [t0, t1, t2] w K = F98 P t0 t1 t2 w K := by kernel_rfl
theorem F98_ok (t0 t1 t2 : Value) (w : World) (K : Value → World → Prop) (h : F98 Try.prog t0 t1 t2 w K) : callsK Try.prog 98 #[t0, t1, t2] w K := calls_of_eq mixedZ Try.func98 (F98_eq _ t0 t1 t2 w K) h

/-- slices.breakPatternsOrdered[uint64] -/
def F99 (P : Program) (t0 t1 t2 : Value) (w : World) (K : Value → World → Prop) : Prop :=
  kV P (binV .sub 3 (.tmp 11) (.tmp 12) t2 t1) w fun v13 w =>
  kV P (binV .geq 3 (.tmp 14) (.const (.int .i64 8)) v13 (.int .i64 8)) w fun v15 w =>
  condK v15
  (kV P (convert 3 168 v13) w fun v17 w =>
  kV P (Instr.alloc 168 true (.tuple #[])) w fun v7 w =>
  kU P (Instr.storeAt 168 v7 v17) w fun _ w =>
  kN P (callN (.func (.func 110) #[] #[]) #[v13]) w fun v19 w =>
  kV P (binV .quo 3 (.tmp 21) (.const (.int .i64 4)) v13 (.int .i64 4)) w fun v22 w =>
  kV P (binV .mul 3 (.tmp 22) (.const (.int .i64 2)) v22 (.int .i64 2)) w fun v23 w =>
  kV P (binV .add 3 (.tmp 20) (.tmp 23) t1 v23) w fun v24 w =>
  kV P (binV .sub 3 (.tmp 24) (.const (.int .i64 1)) v24 (.int .i64 1)) w fun v25 w =>
  loopT (fun R0 s0 w => ∀ _ : Nat → Value,
  kV P (binV .quo 3 (.tmp 28) (.const (.int .i64 4)) v13 (.int .i64 4)) w fun v29 w =>
  kV P (binV .mul 3 (.tmp 29) (.const (.int .i64 2)) v29 (.int .i64 2)) w fun v30 w =>
  kV P (binV .add 3 (.tmp 27) (.tmp 30) t1 v30) w fun v31 w =>
  kV P (binV .add 3 (.tmp 31) (.const (.int .i64 1)) v31 (.int .i64 1)) w fun v32 w =>
  kV P (binV .leq 3 (.tmp 26) (.tmp 32) (s0.getD 0 undef) v32) w fun v33 w =>
  condK v33
  (joinL (fun J2 =>
  kN P (callN (.func (.func 111) #[] #[]) #[v7]) w fun v36 w =>
  kV P (binV .sub 129 (.tmp 37) (.const (.int .u64 1)) v19 (.int .u64 1)) w fun v38 w =>
  kV P (binV .and 129 (.tmp 36) (.tmp 38) v36 v38) w fun v39 w =>
  kV P (convert 129 3 v39) w fun v40 w =>
  joinL (fun J4 =>
  kV P (binV .geq 3 (.tmp 41) (.tmp 42) v40 v13) w fun v43 w =>
  condK v43
  (kV P (binV .sub 3 (.tmp 44) (.tmp 45) v40 v13) w fun v46 w =>
  J4 [v46] w)
  (J4 [v40] w)) fun s4 w => ∀ _ : Nat → Value,
  drewK (fun w =>
  pV P (binV .add 3 (.tmp 50) (.tmp 51) t1 (s4.getD 0 undef)) fun v52 =>
  pV P (binV .add 3 (.tmp 54) (.tmp 55) t1 (s4.getD 0 undef)) fun v56 =>
  pV P (Instr.indexAt 93 t0 v56) fun v57 =>
  pV P (Instr.indexAt 93 t0 (s0.getD 0 undef)) fun v61 =>
  (kV P (Instr.loadAt 28 v57) w fun v58 w =>
  kV P (Instr.loadAt 28 v61) w fun v62 w =>
  pV P (Instr.indexAt 93 t0 (s0.getD 0 undef)) fun v63 =>
  kU P (Instr.storeAt 28 v63 v58) w fun _ w =>
  pV P (Instr.indexAt 93 t0 v52) fun v64 =>
  kU P (Instr.storeAt 28 v64 v62) w fun _ w =>
  J2 [] w) ∧
  (kV P (Instr.loadAt 28 v61) w fun v62_1 w =>
  kV P (Instr.loadAt 28 v57) w fun v58_1 w =>
  pV P (Instr.indexAt 93 t0 (s0.getD 0 undef)) fun v63_1 =>
  kU P (Instr.storeAt 28 v63_1 v58_1) w fun _ w =>
  pV P (Instr.indexAt 93 t0 v52) fun v64_1 =>
  kU P (Instr.storeAt 28 v64_1 v62_1) w fun _ w =>
  J2 [] w)) w) fun s2 w => ∀ _ : Nat → Value,
  kV P (binV .add 3 (.tmp 34) (.const (.int .i64 1)) (s0.getD 0 undef) (.int .i64 1)) w fun v35 w =>
  R0 [v35] w)
  (K (.tuple #[]) w)) [v25] w)
  (K (.tuple #[]) w)
theorem F99_eq (P : Program) (t0 t1 t2 : Value) (w : World) (K : Value → World → Prop) : funE P ⟨[(10, 999)], [(5, [9])], [(6, []), (10, [10])]⟩ Try.f99 [t0, t1, t2] w K = F99 P t0 t1 t2 w K := by kernel_rfl
theorem F99_ok (t0 t1 t2 : Value) (w : World) (K : Value → World → Prop) (h : F99 Try.prog t0 t1 t2 w K) : callsK Try.prog 99 #[t0, t1, t2] w K := calls_of_eq mixedZ Try.func99 (F99_eq _ t0 t1 t2 w K) h

/-- slices.choosePivotOrdered[uint64] -/
def F100 (P : Program) (t0 t1 t2 : Value) (w : World) (K : Value → World → Prop) : Prop :=
  kV P (binV .sub 3 (.tmp 13) (.tmp 14) t2 t1) w fun v15 w =>
  kV P (Instr.alloc 3 true (.tuple #[])) w fun v9 w =>
  kV P (binV .quo 3 (.tmp 17) (.const (.int .i64 4)) v15 (.int .i64 4)) w fun v18 w =>
  kV P (binV .mul 3 (.tmp 18) (.const (.int .i64 1)) v18 (.int .i64 1)) w fun v19 w =>
  kV P (binV .add 3 (.tmp 16) (.tmp 19) t1 v19) w fun v20 w =>
  kV P (binV .quo 3 (.tmp 22) (.const (.int .i64 4)) v15 (.int .i64 4)) w fun v23 w =>
  kV P (binV .mul 3 (.tmp 23) (.const (.int .i64 2)) v23 (.int .i64 2)) w fun v24 w =>
  kV P (binV .add 3 (.tmp 21) (.tmp 24) t1 v24) w fun v25 w =>
  kV P (binV .quo 3 (.tmp 27) (.const (.int .i64 4)) v15 (.int .i64 4)) w fun v28 w =>
  kV P (binV .mul 3 (.tmp 28) (.const (.int .i64 3)) v28 (.int .i64 3)) w fun v29 w =>
  kV P (binV .add 3 (.tmp 26) (.tmp 29) t1 v29) w fun v30 w =>
  joinL (fun J0 =>
  kV P (binV .geq 3 (.tmp 31) (.const (.int .i64 8)) v15 (.int .i64 8)) w fun v32 w =>
  condK v32
  (joinL (fun J2 =>
  kV P (binV .geq 3 (.tmp 33) (.const (.int .i64 50)) v15 (.int .i64 50)) w fun v34 w =>
  condK v34
  (kN P (callN (.func (.func 112) #[] #[]) #[t0, v20, v9]) w fun v37 w =>
  kN P (callN (.func (.func 112) #[] #[]) #[t0, v25, v9]) w fun v40 w =>
  kN P (callN (.func (.func 112) #[] #[]) #[t0, v30, v9]) w fun v43 w =>
  J2 [v37, v40, v43] w)
  (J2 [v20, v25, v30] w)) fun s2 w => ∀ _ : Nat → Value,
  kN P (callN (.func (.func 113) #[] #[]) #[t0, (s2.getD 0 undef), (s2.getD 1 undef), (s2.getD 2 undef), v9]) w fun v48 w =>
  J0 [v48] w)
  (J0 [v25] w)) fun s0 w => ∀ _ : Nat → Value,
  kV P (Instr.loadAt 3 v9) w fun v49 w =>
  kV P (binV .eql 3 (.tmp 49) (.const (.int .i64 0)) v49 (.int .i64 0)) w fun v52 w =>
  condK v52
  (K (.tuple #[(s0.getD 0 undef), (.int .i64 1)]) w)
  (kV P (binV .eql 3 (.tmp 49) (.const (.int .i64 12)) v49 (.int .i64 12)) w fun v55 w =>
  condK v55
  (K (.tuple #[(s0.getD 0 undef), (.int .i64 2)]) w)
  (K (.tuple #[(s0.getD 0 undef), (.int .i64 0)]) w))
theorem F100_eq (P : Program) (t0 t1 t2 : Value) (w : World) (K : Value → World → Prop) : funE P ⟨[], [], [(12, [11]), (11, [10, 11, 12])]⟩ Try.f100 [t0, t1, t2] w K = F100 P t0 t1 t2 w K := by kernel_rfl
theorem F100_ok (t0 t1 t2 : Value) (w : World) (K : Value → World → Prop) (h : F100 Try.prog t0 t1 t2 w K) : callsK Try.prog 100 #[t0, t1, t2] w K := calls_of_eq mixedZ Try.func100 (F100_eq _ t0 t1 t2 w K) h

/-- slices.reverseRangeOrdered[uint64] -/
def F101 (P : Program) (t0 t1 t2 : Value) (w : World) (K : Value → World → Prop) : Prop :=
  kV P (binV .sub 3 (.tmp 9) (.const (.int .i64 1)) t2 (.int .i64 1)) w fun v10 w =>
  loopT (fun R0 s0 w => ∀ _ : Nat → Value,
  kV P (binV .lss 3 (.tmp 11) (.tmp 12) (s0.getD 0 undef) (s0.getD 1 undef)) w fun v13 w =>
  condK v13
  (joinL (fun J2 =>
  drewK (fun w =>
  pV P (Instr.indexAt 93 t0 (s0.getD 1 undef)) fun v20 =>
  pV P (Instr.indexAt 93 t0 (s0.getD 0 undef)) fun v24 =>
  (kV P (Instr.loadAt 28 v20) w fun v21 w =>
  kV P (Instr.loadAt 28 v24) w fun v25 w =>
  pV P (Instr.indexAt 93 t0 (s0.getD 0 undef)) fun v26 =>
  kU P (Instr.storeAt 28 v26 v21) w fun _ w =>
  pV P (Instr.indexAt 93 t0 (s0.getD 1 undef)) fun v27 =>
  kU P (Instr.storeAt 28 v27 v25) w fun _ w =>
  J2 [] w) ∧
  (kV P (Instr.loadAt 28 v24) w fun v25_1 w =>
  kV P (Instr.loadAt 28 v20) w fun v21_1 w =>
  pV P (Instr.indexAt 93 t0 (s0.getD 0 undef)) fun v26_1 =>
  kU P (Instr.storeAt 28 v26_1 v21_1) w fun _ w =>
  pV P (Instr.indexAt 93 t0 (s0.getD 1 undef)) fun v27_1 =>
  kU P (Instr.storeAt 28 v27_1 v25_1) w fun _ w =>
  J2 [] w)) w) fun s2 w => ∀ _ : Nat → Value,
  kV P (binV .add 3 (.tmp 28) (.const (.int .i64 1)) (s0.getD 0 undef) (.int .i64 1)) w fun v29 w =>
  kV P (binV .sub 3 (.tmp 30) (.const (.int .i64 1)) (s0.getD 1 undef) (.int .i64 1)) w fun v31 w =>
  R0 [v29, v31] w)
  (K (.tuple #[]) w)) [t1, v10] w
theorem F101_eq (P : Program) (t0 t1 t2 : Value) (w : World) (K : Value → World → Prop) : funE P ⟨[(3, 999)], [(2, [6, 7])], [(4, [])]⟩ Try.f101 [t0, t1, t2] w K = F101 P t0 t1 t2 w K := by kernel_rfl
theorem F101_ok (t0 t1 t2 : Value) (w : World) (K : Value → World → Prop) (h : F101 Try.prog t0 t1 t2 w K) : callsK Try.prog 101 #[t0, t1, t2] w K := calls_of_eq mixedZ Try.func101 (F101_eq _ t0 t1 t2 w K) h

/-- slices.partialInsertionSortOrdered[uint64] -/
def F102 (P : Program) (t0 t1 t2 : Value) (w : World) (K : Value → World → Prop) : Prop :=
  kV P (binV .add 3 (.tmp 11) (.const (.int .i64 1)) t1 (.int .i64 1)) w fun v12 w =>
  loopT (fun R0 s0 w => ∀ _ : Nat → Value,
  kV P (binV .lss 3 (.tmp 13) (.const (.int .i64 5)) (s0.getD 1 undef) (.int .i64 5)) w fun v14 w =>
  condK v14
  (joinL (fun J2 =>
  loopT (fun R4 s4 w => ∀ _ : Nat → Value,
  drewK (fun w =>
  sV P (binV .lss 3 (.tmp 17) (.tmp 18) (s4.getD 0 undef) t2) w fun v19 =>
  gdS (yb v19) true (fun k => k t0) fun v21 =>
  gdS (yb v19) true (fun k => k (s4.getD 0 undef)) fun v22 =>
  gdS (yb v19) true (fun k => sV P (Instr.indexAt 93 v21 v22) w k) fun v23 =>
  gdS (yb v19) true (fun k => sV P (Instr.loadAt 28 v23) w k) fun v24 =>
  gdS (yb v19) true (fun k => k t0) fun v25 =>
  gdS (yb v19) true (fun k => k (s4.getD 0 undef)) fun v26 =>
  gdS (yb v19) true (fun k => sV P (binV .sub 3 (.tmp 26) (.const (.int .i64 1)) v26 (.int .i64 1)) w k) fun v27 =>
  gdS (yb v19) true (fun k => sV P (Instr.indexAt 93 v25 v27) w k) fun v28 =>
  gdS (yb v19) true (fun k => sV P (Instr.loadAt 28 v28) w k) fun v29 =>
  joinK (fun J6 : Value → World → Prop => gdK (yb v19) true (fun k => kN P (callN (.func (.func 103) #[] #[]) #[v24, v29]) w k) w fun v30 w =>
  gdK (yb v19) true (fun k => kV P (Op.unary .not v30) w k) w fun v31 w =>
  kN P (pickN v19 v31 (.bool false)) w fun v32_1 w =>
  J6 v32_1 w) fun v32 w =>
  condK v32
  (kV P (binV .add 3 (.tmp 33) (.const (.int .i64 1)) (s4.getD 0 undef) (.int .i64 1)) w fun v34 w =>
  R4 [v34] w)
  (kV P (binV .eql 3 (.tmp 35) (.tmp 36) (s4.getD 0 undef) t2) w fun v37 w =>
  condK v37
  (K (.bool true) w)
  (kV P (binV .sub 3 (.tmp 38) (.tmp 39) t2 t1) w fun v40 w =>
  kV P (binV .lss 3 (.tmp 40) (.const (.int .i64 50)) v40 (.int .i64 50)) w fun v41 w =>
  condK v41
  (K (.bool false) w)
  (joinL (fun J7 =>
  drewK (fun w =>
  pV P (binV .sub 3 (.tmp 45) (.const (.int .i64 1)) (s4.getD 0 undef) (.int .i64 1)) fun v46 =>
  pV P (binV .sub 3 (.tmp 48) (.const (.int .i64 1)) (s4.getD 0 undef) (.int .i64 1)) fun v49 =>
  pV P (Instr.indexAt 93 t0 v49) fun v50 =>
  pV P (Instr.indexAt 93 t0 (s4.getD 0 undef)) fun v54 =>
  (kV P (Instr.loadAt 28 v50) w fun v51 w =>
  kV P (Instr.loadAt 28 v54) w fun v55 w =>
  pV P (Instr.indexAt 93 t0 (s4.getD 0 undef)) fun v56 =>
  kU P (Instr.storeAt 28 v56 v51) w fun _ w =>
  pV P (Instr.indexAt 93 t0 v46) fun v57 =>
  kU P (Instr.storeAt 28 v57 v55) w fun _ w =>
  J7 [] w) ∧
  (kV P (Instr.loadAt 28 v54) w fun v55_1 w =>
  kV P (Instr.loadAt 28 v50) w fun v51_1 w =>
  pV P (Instr.indexAt 93 t0 (s4.getD 0 undef)) fun v56_1 =>
  kU P (Instr.storeAt 28 v56_1 v51_1) w fun _ w =>
  pV P (Instr.indexAt 93 t0 v46) fun v57_1 =>
  kU P (Instr.storeAt 28 v57_1 v55_1) w fun _ w =>
  J7 [] w)) w) fun s7 w => ∀ _ : Nat → Value,
  joinL (fun J9 =>
  kV P (binV .sub 3 (.tmp 58) (.tmp 59) (s4.getD 0 undef) t1) w fun v60 w =>
  kV P (binV .geq 3 (.tmp 60) (.const (.int .i64 2)) v60 (.int .i64 2)) w fun v61 w =>
  condK v61
  (kV P (binV .sub 3 (.tmp 62) (.const (.int .i64 1)) (s4.getD 0 undef) (.int .i64 1)) w fun v63 w =>
  loopT (fun R15 s15 w => ∀ _ : Nat → Value,
  kV P (binV .geq 3 (.tmp 64) (.const (.int .i64 1)) (s15.getD 0 undef) (.int .i64 1)) w fun v65 w =>
  condK v65
  (joinL (fun J17 =>
  drewK (fun w =>
  sV P (Instr.indexAt 93 t0 (s15.getD 0 undef)) w fun v70 =>
  sV P (Instr.loadAt 28 v70) w fun v71 =>
  sV P (binV .sub 3 (.tmp 73) (.const (.int .i64 1)) (s15.getD 0 undef) (.int .i64 1)) w fun v74 =>
  sV P (Instr.indexAt 93 t0 v74) w fun v75 =>
  sV P (Instr.loadAt 28 v75) w fun v76 =>
  kN P (callN (.func (.func 103) #[] #[]) #[v71, v76]) w fun v77 w =>
  kV P (Op.unary .not v77) w fun v78 w =>
  condK v78
  (J9 [] w)
  (drewK (fun w =>
  pV P (binV .sub 3 (.tmp 82) (.const (.int .i64 1)) (s15.getD 0 undef) (.int .i64 1)) fun v83 =>
  pV P (binV .sub 3 (.tmp 85) (.const (.int .i64 1)) (s15.getD 0 undef) (.int .i64 1)) fun v86 =>
  pV P (Instr.indexAt 93 t0 v86) fun v87 =>
  pV P (Instr.indexAt 93 t0 (s15.getD 0 undef)) fun v91 =>
  (kV P (Instr.loadAt 28 v87) w fun v88 w =>
  kV P (Instr.loadAt 28 v91) w fun v92 w =>
  pV P (Instr.indexAt 93 t0 (s15.getD 0 undef)) fun v93 =>
  kU P (Instr.storeAt 28 v93 v88) w fun _ w =>
  pV P (Instr.indexAt 93 t0 v83) fun v94 =>
  kU P (Instr.storeAt 28 v94 v92) w fun _ w =>
  J17 [] w) ∧
  (kV P (Instr.loadAt 28 v91) w fun v92_1 w =>
  kV P (Instr.loadAt 28 v87) w fun v88_1 w =>
  pV P (Instr.indexAt 93 t0 (s15.getD 0 undef)) fun v93_1 =>
  kU P (Instr.storeAt 28 v93_1 v88_1) w fun _ w =>
  pV P (Instr.indexAt 93 t0 v83) fun v94_1 =>
  kU P (Instr.storeAt 28 v94_1 v92_1) w fun _ w =>
  J17 [] w)) w)) w) fun s17 w => ∀ _ : Nat → Value,
  kV P (binV .sub 3 (.tmp 66) (.const (.int .i64 1)) (s15.getD 0 undef) (.int .i64 1)) w fun v67 w =>
  R15 [v67] w)
  (J9 [] w)) [v63] w)
  (J9 [] w)) fun s9 w => ∀ _ : Nat → Value,
  kV P (binV .sub 3 (.tmp 95) (.tmp 96) t2 (s4.getD 0 undef)) w fun v97 w =>
  kV P (binV .geq 3 (.tmp 97) (.const (.int .i64 2)) v97 (.int .i64 2)) w fun v98 w =>
  condK v98
  (kV P (binV .add 3 (.tmp 99) (.const (.int .i64 1)) (s4.getD 0 undef) (.int .i64 1)) w fun v100 w =>
  loopT (fun R11 s11 w => ∀ _ : Nat → Value,
  kV P (binV .lss 3 (.tmp 101) (.tmp 102) (s11.getD 0 undef) t2) w fun v103 w =>
  condK v103
  (joinL (fun J13 =>
  drewK (fun w =>
  sV P (Instr.indexAt 93 t0 (s11.getD 0 undef)) w fun v108 =>
  sV P (Instr.loadAt 28 v108) w fun v109 =>
  sV P (binV .sub 3 (.tmp 111) (.const (.int .i64 1)) (s11.getD 0 undef) (.int .i64 1)) w fun v112 =>
  sV P (Instr.indexAt 93 t0 v112) w fun v113 =>
  sV P (Instr.loadAt 28 v113) w fun v114 =>
  kN P (callN (.func (.func 103) #[] #[]) #[v109, v114]) w fun v115 w =>
  kV P (Op.unary .not v115) w fun v116 w =>
  condK v116
  (J2 [(s4.getD 0 undef)] w)
  (drewK (fun w =>
  pV P (binV .sub 3 (.tmp 120) (.const (.int .i64 1)) (s11.getD 0 undef) (.int .i64 1)) fun v121 =>
  pV P (binV .sub 3 (.tmp 123) (.const (.int .i64 1)) (s11.getD 0 undef) (.int .i64 1)) fun v124 =>
  pV P (Instr.indexAt 93 t0 v124) fun v125 =>
  pV P (Instr.indexAt 93 t0 (s11.getD 0 undef)) fun v129 =>
  (kV P (Instr.loadAt 28 v125) w fun v126 w =>
  kV P (Instr.loadAt 28 v129) w fun v130 w =>
  pV P (Instr.indexAt 93 t0 (s11.getD 0 undef)) fun v131 =>
  kU P (Instr.storeAt 28 v131 v126) w fun _ w =>
  pV P (Instr.indexAt 93 t0 v121) fun v132 =>
  kU P (Instr.storeAt 28 v132 v130) w fun _ w =>
  J13 [] w) ∧
  (kV P (Instr.loadAt 28 v129) w fun v130_1 w =>
  kV P (Instr.loadAt 28 v125) w fun v126_1 w =>
  pV P (Instr.indexAt 93 t0 (s11.getD 0 undef)) fun v131_1 =>
  kU P (Instr.storeAt 28 v131_1 v126_1) w fun _ w =>
  pV P (Instr.indexAt 93 t0 v121) fun v132_1 =>
  kU P (Instr.storeAt 28 v132_1 v130_1) w fun _ w =>
  J13 [] w)) w)) w) fun s13 w => ∀ _ : Nat → Value,
  kV P (binV .add 3 (.tmp 104) (.const (.int .i64 1)) (s11.getD 0 undef) (.int .i64 1)) w fun v105 w =>
  R11 [v105] w)
  (J2 [(s4.getD 0 undef)] w)) [v100] w)
  (J2 [(s4.getD 0 undef)] w))))) w) [(s0.getD 0 undef)] w) fun s2 w => ∀ _ : Nat → Value,
  kV P (binV .add 3 (.tmp 15) (.const (.int .i64 1)) (s0.getD 1 undef) (.int .i64 1)) w fun v16 w =>
  R0 [(s2.getD 0 undef), v16] w)
  (K (.bool false) w)) [v12, (.int .i64 0)] w
theorem F102_eq (P : Program) (t0 t1 t2 : Value) (w : World) (K : Value → World → Prop) : funE P ⟨[(11, 999), (17, 999), (16, 9), (23, 999), (22, 9), (5, 13)], [(3, [7, 8]), (5, [7]), (14, [9]), (20, [10])], [(4, [7]), (12, []), (18, []), (15, []), (21, [])]⟩ Try.f102 [t0, t1, t2] w K = F102 P t0 t1 t2 w K := by kernel_rfl
theorem F102_ok (t0 t1 t2 : Value) (w : World) (K : Value → World → Prop) (h : F102 Try.prog t0 t1 t2 w K) : callsK Try.prog 102 #[t0, t1, t2] w K := calls_of_eq mixedZ Try.func102 (F102_eq _ t0 t1 t2 w K) h

/-- cmp.Less[uint64] -/
def F103 (P : Program) (t0 t1 : Value) (w : World) (K : Value → World → Prop) : Prop :=
  kN P (callN (.func (.func 114) #[] #[]) #[t0]) w fun v6 w =>
  joinK (fun J0 : Value → World → Prop => gdK (yb v6) true (fun k => k t1 w) w fun v8 w =>
  gdK (yb v6) true (fun k => kN P (callN (.func (.func 114) #[] #[]) #[v8]) w k) w fun v9 w =>
  gdK (yb v6) true (fun k => kV P (Op.unary .not v9) w k) w fun v10 w =>
  kN P (pickN v6 v10 (.bool false)) w fun v11_1 w =>
  J0 v11_1 w) fun v11 w =>
  joinK (fun J1 : Value → World → Prop => gdK (yb v11) false (fun k => k t0 w) w fun v13 w =>
  gdK (yb v11) false (fun k => k t1 w) w fun v14 w =>
  gdK (yb v11) false (fun k => kV P (binV .lss 28 (.tmp 13) (.tmp 14) v13 v14) w k) w fun v15 w =>
  kN P (pickN v11 (.bool true) v15) w fun v16_1 w =>
  J1 v16_1 w) fun v16 w =>
  K v16 w
theorem F103_eq (P : Program) (t0 t1 : Value) (w : World) (K : Value → World → Prop) : funE P ⟨[], [], []⟩ Try.f103 [t0, t1] w K = F103 P t0 t1 w K := by kernel_rfl
theorem F103_ok (t0 t1 : Value) (w : World) (K : Value → World → Prop) (h : F103 Try.prog t0 t1 w K) : callsK Try.prog 103 #[t0, t1] w K := calls_of_eq mixedZ Try.func103 (F103_eq _ t0 t1 w K) h

/-- slices.partitionEqualOrdered[uint64] -/
def F104 (P : Program) (t0 t1 t2 t3 : Value) (w : World) (K : Value → World → Prop) : Prop :=
  joinL (fun J0 =>
  drewK (fun w =>
  pV P (Instr.indexAt 93 t0 t3) fun v17 =>
  pV P (Instr.indexAt 93 t0 t1) fun v21 =>
  (kV P (Instr.loadAt 28 v17) w fun v18 w =>
  kV P (Instr.loadAt 28 v21) w fun v22 w =>
  pV P (Instr.indexAt 93 t0 t1) fun v23 =>
  kU P (Instr.storeAt 28 v23 v18) w fun _ w =>
  pV P (Instr.indexAt 93 t0 t3) fun v24 =>
  kU P (Instr.storeAt 28 v24 v22) w fun _ w =>
  J0 [] w) ∧
  (kV P (Instr.loadAt 28 v21) w fun v22_1 w =>
  kV P (Instr.loadAt 28 v17) w fun v18_1 w =>
  pV P (Instr.indexAt 93 t0 t1) fun v23_1 =>
  kU P (Instr.storeAt 28 v23_1 v18_1) w fun _ w =>
  pV P (Instr.indexAt 93 t0 t3) fun v24_1 =>
  kU P (Instr.storeAt 28 v24_1 v22_1) w fun _ w =>
  J0 [] w)) w) fun s0 w => ∀ _ : Nat → Value,
  kV P (binV .add 3 (.tmp 25) (.const (.int .i64 1)) t1 (.int .i64 1)) w fun v26 w =>
  kV P (binV .sub 3 (.tmp 27) (.const (.int .i64 1)) t2 (.int .i64 1)) w fun v28 w =>
  loopT (fun R2 s2 w => ∀ _ : Nat → Value,
  loopT (fun R4 s4 w => ∀ _ : Nat → Value,
  drewK (fun w =>
  sV P (binV .leq 3 (.tmp 29) (.tmp 30) (s4.getD 0 undef) (s2.getD 1 undef)) w fun v31 =>
  gdS (yb v31) true (fun k => k t0) fun v33 =>
  gdS (yb v31) true (fun k => k t1) fun v34 =>
  gdS (yb v31) true (fun k => sV P (Instr.indexAt 93 v33 v34) w k) fun v35 =>
  gdS (yb v31) true (fun k => sV P (Instr.loadAt 28 v35) w k) fun v36 =>
  gdS (yb v31) true (fun k => k t0) fun v37 =>
  gdS (yb v31) true (fun k => k (s4.getD 0 undef)) fun v38 =>
  gdS (yb v31) true (fun k => sV P (Instr.indexAt 93 v37 v38) w k) fun v39 =>
  gdS (yb v31) true (fun k => sV P (Instr.loadAt 28 v39) w k) fun v40 =>
  joinK (fun J6 : Value → World → Prop => gdK (yb v31) true (fun k => kN P (callN (.func (.func 103) #[] #[]) #[v36, v40]) w k) w fun v41 w =>
  gdK (yb v31) true (fun k => kV P (Op.unary .not v41) w k) w fun v42 w =>
  kN P (pickN v31 v42 (.bool false)) w fun v43_1 w =>
  J6 v43_1 w) fun v43 w =>
  condK v43
  (kV P (binV .add 3 (.tmp 44) (.const (.int .i64 1)) (s4.getD 0 undef) (.int .i64 1)) w fun v45 w =>
  R4 [v45, (s2.getD 1 undef)] w)
  (loopT (fun R7 s7 w => ∀ _ : Nat → Value,
  drewK (fun w =>
  sV P (binV .leq 3 (.tmp 46) (.tmp 47) (s4.getD 0 undef) (s7.getD 0 undef)) w fun v48 =>
  gdS (yb v48) true (fun k => k t0) fun v50 =>
  gdS (yb v48) true (fun k => k t1) fun v51 =>
  gdS (yb v48) true (fun k => sV P (Instr.indexAt 93 v50 v51) w k) fun v52 =>
  gdS (yb v48) true (fun k => sV P (Instr.loadAt 28 v52) w k) fun v53 =>
  gdS (yb v48) true (fun k => k t0) fun v54 =>
  gdS (yb v48) true (fun k => k (s7.getD 0 undef)) fun v55 =>
  gdS (yb v48) true (fun k => sV P (Instr.indexAt 93 v54 v55) w k) fun v56 =>
  gdS (yb v48) true (fun k => sV P (Instr.loadAt 28 v56) w k) fun v57 =>
  joinK (fun J9 : Value → World → Prop => gdK (yb v48) true (fun k => kN P (callN (.func (.func 103) #[] #[]) #[v53, v57]) w k) w fun v58 w =>
  kN P (pickN v48 v58 (.bool false)) w fun v59_1 w =>
  J9 v59_1 w) fun v59 w =>
  condK v59
  (kV P (binV .sub 3 (.tmp 60) (.const (.int .i64 1)) (s7.getD 0 undef) (.int .i64 1)) w fun v61 w =>
  R7 [v61] w)
  (kV P (binV .gtr 3 (.tmp 62) (.tmp 63) (s4.getD 0 undef) (s7.getD 0 undef)) w fun v64 w =>
  condK v64
  (K (s4.getD 0 undef) w)
  (joinL (fun J10 =>
  drewK (fun w =>
  pV P (Instr.indexAt 93 t0 (s7.getD 0 undef)) fun v71 =>
  pV P (Instr.indexAt 93 t0 (s4.getD 0 undef)) fun v75 =>
  (kV P (Instr.loadAt 28 v71) w fun v72 w =>
  kV P (Instr.loadAt 28 v75) w fun v76 w =>
  pV P (Instr.indexAt 93 t0 (s4.getD 0 undef)) fun v77 =>
  kU P (Instr.storeAt 28 v77 v72) w fun _ w =>
  pV P (Instr.indexAt 93 t0 (s7.getD 0 undef)) fun v78 =>
  kU P (Instr.storeAt 28 v78 v76) w fun _ w =>
  J10 [] w) ∧
  (kV P (Instr.loadAt 28 v75) w fun v76_1 w =>
  kV P (Instr.loadAt 28 v71) w fun v72_1 w =>
  pV P (Instr.indexAt 93 t0 (s4.getD 0 undef)) fun v77_1 =>
  kU P (Instr.storeAt 28 v77_1 v72_1) w fun _ w =>
  pV P (Instr.indexAt 93 t0 (s7.getD 0 undef)) fun v78_1 =>
  kU P (Instr.storeAt 28 v78_1 v76_1) w fun _ w =>
  J10 [] w)) w) fun s10 w => ∀ _ : Nat → Value,
  kV P (binV .add 3 (.tmp 79) (.const (.int .i64 1)) (s4.getD 0 undef) (.int .i64 1)) w fun v80 w =>
  kV P (binV .sub 3 (.tmp 81) (.const (.int .i64 1)) (s7.getD 0 undef) (.int .i64 1)) w fun v82 w =>
  R2 [v80, v82] w))) w) [(s2.getD 1 undef)] w)) w) [(s2.getD 0 undef), (s2.getD 1 undef)] w) [v26, v28] w
theorem F104_eq (P : Program) (t0 t1 t2 t3 : Value) (w : World) (K : Value → World → Prop) : funE P ⟨[(1, 999), (8, 999), (5, 12), (3, 12)], [(3, [9, 10]), (5, [10])], [(2, []), (9, [])]⟩ Try.f104 [t0, t1, t2, t3] w K = F104 P t0 t1 t2 t3 w K := by kernel_rfl
theorem F104_ok (t0 t1 t2 t3 : Value) (w : World) (K : Value → World → Prop) (h : F104 Try.prog t0 t1 t2 t3 w K) : callsK Try.prog 104 #[t0, t1, t2, t3] w K := calls_of_eq mixedZ Try.func104 (F104_eq _ t0 t1 t2 t3 w K) h

/-- slices.partitionOrdered[uint64] -/
def F105 (P : Program) (t0 t1 t2 t3 : Value) (w : World) (K : Value → World → Prop) : Prop :=
  joinL (fun J0 =>
  drewK (fun w =>
  pV P (Instr.indexAt 93 t0 t3) fun v18 =>
  pV P (Instr.indexAt 93 t0 t1) fun v22 =>
  (kV P (Instr.loadAt 28 v18) w fun v19 w =>
  kV P (Instr.loadAt 28 v22) w fun v23 w =>
  pV P (Instr.indexAt 93 t0 t1) fun v24 =>
  kU P (Instr.storeAt 28 v24 v19) w fun _ w =>
  pV P (Instr.indexAt 93 t0 t3) fun v25 =>
  kU P (Instr.storeAt 28 v25 v23) w fun _ w =>
  J0 [] w) ∧
  (kV P (Instr.loadAt 28 v22) w fun v23_1 w =>
  kV P (Instr.loadAt 28 v18) w fun v19_1 w =>
  pV P (Instr.indexAt 93 t0 t1) fun v24_1 =>
  kU P (Instr.storeAt 28 v24_1 v19_1) w fun _ w =>
  pV P (Instr.indexAt 93 t0 t3) fun v25_1 =>
  kU P (Instr.storeAt 28 v25_1 v23_1) w fun _ w =>
  J0 [] w)) w) fun s0 w => ∀ _ : Nat → Value,
  kV P (binV .add 3 (.tmp 26) (.const (.int .i64 1)) t1 (.int .i64 1)) w fun v27 w =>
  kV P (binV .sub 3 (.tmp 28) (.const (.int .i64 1)) t2 (.int .i64 1)) w fun v29 w =>
  loopT (fun R2 s2 w => ∀ _ : Nat → Value,
  drewK (fun w =>
  sV P (binV .leq 3 (.tmp 30) (.tmp 31) (s2.getD 0 undef) v29) w fun v32 =>
  gdS (yb v32) true (fun k => k t0) fun v34 =>
  gdS (yb v32) true (fun k => k (s2.getD 0 undef)) fun v35 =>
  gdS (yb v32) true (fun k => sV P (Instr.indexAt 93 v34 v35) w k) fun v36 =>
  gdS (yb v32) true (fun k => sV P (Instr.loadAt 28 v36) w k) fun v37 =>
  gdS (yb v32) true (fun k => k t0) fun v38 =>
  gdS (yb v32) true (fun k => k t1) fun v39 =>
  gdS (yb v32) true (fun k => sV P (Instr.indexAt 93 v38 v39) w k) fun v40 =>
  gdS (yb v32) true (fun k => sV P (Instr.loadAt 28 v40) w k) fun v41 =>
  joinK (fun J4 : Value → World → Prop => gdK (yb v32) true (fun k => kN P (callN (.func (.func 103) #[] #[]) #[v37, v41]) w k) w fun v42 w =>
  kN P (pickN v32 v42 (.bool false)) w fun v43_1 w =>
  J4 v43_1 w) fun v43 w =>
  condK v43
  (kV P (binV .add 3 (.tmp 44) (.const (.int .i64 1)) (s2.getD 0 undef) (.int .i64 1)) w fun v45 w =>
  R2 [v45] w)
  (loopT (fun R5 s5 w => ∀ _ : Nat → Value,
  drewK (fun w =>
  sV P (binV .leq 3 (.tmp 46) (.tmp 47) (s2.getD 0 undef) (s5.getD 0 undef)) w fun v48 =>
  gdS (yb v48) true (fun k => k t0) fun v50 =>
  gdS (yb v48) true (fun k => k (s5.getD 0 undef)) fun v51 =>
  gdS (yb v48) true (fun k => sV P (Instr.indexAt 93 v50 v51) w k) fun v52 =>
  gdS (yb v48) true (fun k => sV P (Instr.loadAt 28 v52) w k) fun v53 =>
  gdS (yb v48) true (fun k => k t0) fun v54 =>
  gdS (yb v48) true (fun k => k t1) fun v55 =>
  gdS (yb v48) true (fun k => sV P (Instr.indexAt 93 v54 v55) w k) fun v56 =>
  gdS (yb v48) true (fun k => sV P (Instr.loadAt 28 v56) w k) fun v57 =>
  joinK (fun J7 : Value → World → Prop => gdK (yb v48) true (fun k => kN P (callN (.func (.func 103) #[] #[]) #[v53, v57]) w k) w fun v58 w =>
  gdK (yb v48) true (fun k => kV P (Op.unary .not v58) w k) w fun v59 w =>
  kN P (pickN v48 v59 (.bool false)) w fun v60_1 w =>
  J7 v60_1 w) fun v60 w =>
  condK v60
  (kV P (binV .sub 3 (.tmp 61) (.const (.int .i64 1)) (s5.getD 0 undef) (.int .i64 1)) w fun v62 w =>
  R5 [v62] w)
  (kV P (binV .gtr 3 (.tmp 63) (.tmp 64) (s2.getD 0 undef) (s5.getD 0 undef)) w fun v65 w =>
  condK v65
  (joinL (fun J8 =>
  drewK (fun w =>
  pV P (Instr.indexAt 93 t0 t1) fun v72 =>
  pV P (Instr.indexAt 93 t0 (s5.getD 0 undef)) fun v76 =>
  (kV P (Instr.loadAt 28 v72) w fun v73 w =>
  kV P (Instr.loadAt 28 v76) w fun v77 w =>
  pV P (Instr.indexAt 93 t0 (s5.getD 0 undef)) fun v78 =>
  kU P (Instr.storeAt 28 v78 v73) w fun _ w =>
  pV P (Instr.indexAt 93 t0 t1) fun v79 =>
  kU P (Instr.storeAt 28 v79 v77) w fun _ w =>
  J8 [] w) ∧
  (kV P (Instr.loadAt 28 v76) w fun v77_1 w =>
  kV P (Instr.loadAt 28 v72) w fun v73_1 w =>
  pV P (Instr.indexAt 93 t0 (s5.getD 0 undef)) fun v78_1 =>
  kU P (Instr.storeAt 28 v78_1 v73_1) w fun _ w =>
  pV P (Instr.indexAt 93 t0 t1) fun v79_1 =>
  kU P (Instr.storeAt 28 v79_1 v77_1) w fun _ w =>
  J8 [] w)) w) fun s8 w => ∀ _ : Nat → Value,
  K (.tuple #[(s5.getD 0 undef), (.bool true)]) w)
  (joinL (fun J10 =>
  drewK (fun w =>
  pV P (Instr.indexAt 93 t0 (s5.getD 0 undef)) fun v87 =>
  pV P (Instr.indexAt 93 t0 (s2.getD 0 undef)) fun v91 =>
  (kV P (Instr.loadAt 28 v87) w fun v88 w =>
  kV P (Instr.loadAt 28 v91) w fun v92 w =>
  pV P (Instr.indexAt 93 t0 (s2.getD 0 undef)) fun v93 =>
  kU P (Instr.storeAt 28 v93 v88) w fun _ w =>
  pV P (Instr.indexAt 93 t0 (s5.getD 0 undef)) fun v94 =>
  kU P (Instr.storeAt 28 v94 v92) w fun _ w =>
  J10 [] w) ∧
  (kV P (Instr.loadAt 28 v91) w fun v92_1 w =>
  kV P (Instr.loadAt 28 v87) w fun v88_1 w =>
  pV P (Instr.indexAt 93 t0 (s2.getD 0 undef)) fun v93_1 =>
  kU P (Instr.storeAt 28 v93_1 v88_1) w fun _ w =>
  pV P (Instr.indexAt 93 t0 (s5.getD 0 undef)) fun v94_1 =>
  kU P (Instr.storeAt 28 v94_1 v92_1) w fun _ w =>
  J10 [] w)) w) fun s10 w => ∀ _ : Nat → Value,
  kV P (binV .add 3 (.tmp 95) (.const (.int .i64 1)) (s2.getD 0 undef) (.int .i64 1)) w fun v96 w =>
  kV P (binV .sub 3 (.tmp 97) (.const (.int .i64 1)) (s5.getD 0 undef) (.int .i64 1)) w fun v98 w =>
  loopT (fun R12 s12 w => ∀ _ : Nat → Value,
  loopT (fun R14 s14 w => ∀ _ : Nat → Value,
  drewK (fun w =>
  sV P (binV .leq 3 (.tmp 99) (.tmp 100) (s14.getD 0 undef) (s12.getD 1 undef)) w fun v101 =>
  gdS (yb v101) true (fun k => k t0) fun v103 =>
  gdS (yb v101) true (fun k => k (s14.getD 0 undef)) fun v104 =>
  gdS (yb v101) true (fun k => sV P (Instr.indexAt 93 v103 v104) w k) fun v105 =>
  gdS (yb v101) true (fun k => sV P (Instr.loadAt 28 v105) w k) fun v106 =>
  gdS (yb v101) true (fun k => k t0) fun v107 =>
  gdS (yb v101) true (fun k => k t1) fun v108 =>
  gdS (yb v101) true (fun k => sV P (Instr.indexAt 93 v107 v108) w k) fun v109 =>
  gdS (yb v101) true (fun k => sV P (Instr.loadAt 28 v109) w k) fun v110 =>
  joinK (fun J16 : Value → World → Prop => gdK (yb v101) true (fun k => kN P (callN (.func (.func 103) #[] #[]) #[v106, v110]) w k) w fun v111 w =>
  kN P (pickN v101 v111 (.bool false)) w fun v112_1 w =>
  J16 v112_1 w) fun v112 w =>
  condK v112
  (kV P (binV .add 3 (.tmp 113) (.const (.int .i64 1)) (s14.getD 0 undef) (.int .i64 1)) w fun v114 w =>
  R14 [v114, (s12.getD 1 undef)] w)
  (loopT (fun R17 s17 w => ∀ _ : Nat → Value,
  drewK (fun w =>
  sV P (binV .leq 3 (.tmp 115) (.tmp 116) (s14.getD 0 undef) (s17.getD 0 undef)) w fun v117 =>
  gdS (yb v117) true (fun k => k t0) fun v119 =>
  gdS (yb v117) true (fun k => k (s17.getD 0 undef)) fun v120 =>
  gdS (yb v117) true (fun k => sV P (Instr.indexAt 93 v119 v120) w k) fun v121 =>
  gdS (yb v117) true (fun k => sV P (Instr.loadAt 28 v121) w k) fun v122 =>
  gdS (yb v117) true (fun k => k t0) fun v123 =>
  gdS (yb v117) true (fun k => k t1) fun v124 =>
  gdS (yb v117) true (fun k => sV P (Instr.indexAt 93 v123 v124) w k) fun v125 =>
  gdS (yb v117) true (fun k => sV P (Instr.loadAt 28 v125) w k) fun v126 =>
  joinK (fun J19 : Value → World → Prop => gdK (yb v117) true (fun k => kN P (callN (.func (.func 103) #[] #[]) #[v122, v126]) w k) w fun v127 w =>
  gdK (yb v117) true (fun k => kV P (Op.unary .not v127) w k) w fun v128 w =>
  kN P (pickN v117 v128 (.bool false)) w fun v129_1 w =>
  J19 v129_1 w) fun v129 w =>
  condK v129
  (kV P (binV .sub 3 (.tmp 130) (.const (.int .i64 1)) (s17.getD 0 undef) (.int .i64 1)) w fun v131 w =>
  R17 [v131] w)
  (kV P (binV .gtr 3 (.tmp 132) (.tmp 133) (s14.getD 0 undef) (s17.getD 0 undef)) w fun v134 w =>
  condK v134
  (joinL (fun J20 =>
  drewK (fun w =>
  pV P (Instr.indexAt 93 t0 t1) fun v159 =>
  pV P (Instr.indexAt 93 t0 (s17.getD 0 undef)) fun v163 =>
  (kV P (Instr.loadAt 28 v159) w fun v160 w =>
  kV P (Instr.loadAt 28 v163) w fun v164 w =>
  pV P (Instr.indexAt 93 t0 (s17.getD 0 undef)) fun v165 =>
  kU P (Instr.storeAt 28 v165 v160) w fun _ w =>
  pV P (Instr.indexAt 93 t0 t1) fun v166 =>
  kU P (Instr.storeAt 28 v166 v164) w fun _ w =>
  J20 [] w) ∧
  (kV P (Instr.loadAt 28 v163) w fun v164_1 w =>
  kV P (Instr.loadAt 28 v159) w fun v160_1 w =>
  pV P (Instr.indexAt 93 t0 (s17.getD 0 undef)) fun v165_1 =>
  kU P (Instr.storeAt 28 v165_1 v160_1) w fun _ w =>
  pV P (Instr.indexAt 93 t0 t1) fun v166_1 =>
  kU P (Instr.storeAt 28 v166_1 v164_1) w fun _ w =>
  J20 [] w)) w) fun s20 w => ∀ _ : Nat → Value,
  K (.tuple #[(s17.getD 0 undef), (.bool false)]) w)
  (joinL (fun J22 =>
  drewK (fun w =>
  pV P (Instr.indexAt 93 t0 (s17.getD 0 undef)) fun v141 =>
  pV P (Instr.indexAt 93 t0 (s14.getD 0 undef)) fun v145 =>
  (kV P (Instr.loadAt 28 v141) w fun v142 w =>
  kV P (Instr.loadAt 28 v145) w fun v146 w =>
  pV P (Instr.indexAt 93 t0 (s14.getD 0 undef)) fun v147 =>
  kU P (Instr.storeAt 28 v147 v142) w fun _ w =>
  pV P (Instr.indexAt 93 t0 (s17.getD 0 undef)) fun v148 =>
  kU P (Instr.storeAt 28 v148 v146) w fun _ w =>
  J22 [] w) ∧
  (kV P (Instr.loadAt 28 v145) w fun v146_1 w =>
  kV P (Instr.loadAt 28 v141) w fun v142_1 w =>
  pV P (Instr.indexAt 93 t0 (s14.getD 0 undef)) fun v147_1 =>
  kU P (Instr.storeAt 28 v147_1 v142_1) w fun _ w =>
  pV P (Instr.indexAt 93 t0 (s17.getD 0 undef)) fun v148_1 =>
  kU P (Instr.storeAt 28 v148_1 v146_1) w fun _ w =>
  J22 [] w)) w) fun s22 w => ∀ _ : Nat → Value,
  kV P (binV .add 3 (.tmp 149) (.const (.int .i64 1)) (s14.getD 0 undef) (.int .i64 1)) w fun v150 w =>
  kV P (binV .sub 3 (.tmp 151) (.const (.int .i64 1)) (s17.getD 0 undef) (.int .i64 1)) w fun v152 w =>
  R12 [v150, v152] w))) w) [(s12.getD 1 undef)] w)) w) [(s12.getD 0 undef), (s12.getD 1 undef)] w) [v96, v98] w))) w) [v29] w)) w) [v27] w
theorem F105_eq (P : Program) (t0 t1 t2 t3 : Value) (w : World) (K : Value → World → Prop) : funE P ⟨[(1, 999), (10, 999), (18, 999), (21, 999), (15, 12), (13, 12), (8, 999), (5, 12), (3, 12)], [(3, [10]), (5, [11]), (13, [10, 11]), (15, [11])], [(2, []), (11, []), (19, []), (22, []), (9, [])]⟩ Try.f105 [t0, t1, t2, t3] w K = F105 P t0 t1 t2 t3 w K := by kernel_rfl
theorem F105_ok (t0 t1 t2 t3 : Value) (w : World) (K : Value → World → Prop) (h : F105 Try.prog t0 t1 t2 t3 w K) : callsK Try.prog 105 #[t0, t1, t2, t3] w K := calls_of_eq mixedZ Try.func105 (F105_eq _ t0 t1 t2 t3 w K) h

/-- math/bits.Len64 -/
def F107 (P : Program) (t0 : Value) (w : World) (K : Value → World → Prop) : Prop :=
  joinL (fun J0 =>
  kV P (binV .geq 28 (.tmp 3) (.const (.int .u64 4294967296)) t0 (.int .u64 4294967296)) w fun v4 w =>
  condK v4
  (kV P (binV .shr 28 (.tmp 5) (.const (.int .u64 32)) t0 (.int .u64 32)) w fun v6 w =>
  J0 [v6, (.int .i64 32)] w)
  (J0 [t0, (.int .i64 0)] w)) fun s0 w => ∀ _ : Nat → Value,
  joinL (fun J2 =>
  kV P (binV .geq 28 (.tmp 7) (.const (.int .u64 65536)) (s0.getD 0 undef) (.int .u64 65536)) w fun v8 w =>
  condK v8
  (kV P (binV .shr 28 (.tmp 9) (.const (.int .u64 16)) (s0.getD 0 undef) (.int .u64 16)) w fun v10 w =>
  kV P (binV .add 3 (.tmp 11) (.const (.int .i64 16)) (s0.getD 1 undef) (.int .i64 16)) w fun v12 w =>
  J2 [v10, v12] w)
  (J2 [(s0.getD 0 undef), (s0.getD 1 undef)] w)) fun s2 w => ∀ _ : Nat → Value,
  joinL (fun J4 =>
  kV P (binV .geq 28 (.tmp 13) (.const (.int .u64 256)) (s2.getD 0 undef) (.int .u64 256)) w fun v14 w =>
  condK v14
  (kV P (binV .shr 28 (.tmp 15) (.const (.int .u64 8)) (s2.getD 0 undef) (.int .u64 8)) w fun v16 w =>
  kV P (binV .add 3 (.tmp 17) (.const (.int .i64 8)) (s2.getD 1 undef) (.int .i64 8)) w fun v18 w =>
  J4 [v16, v18] w)
  (J4 [(s2.getD 0 undef), (s2.getD 1 undef)] w)) fun s4 w => ∀ _ : Nat → Value,
  kV P (convert 28 5 (s4.getD 0 undef)) w fun v21 w =>
  kV P (Instr.index 9 (.string ⟨#[0, 1, 2, 2, 3, 3, 3, 3, 4, 4, 4, 4, 4, 4, 4, 4, 5, 5, 5, 5, 5, 5, 5, 5, 5, 5, 5, 5, 5, 5, 5, 5, 6, 6, 6, 6, 6, 6, 6, 6, 6, 6, 6, 6, 6, 6, 6, 6, 6, 6, 6, 6, 6, 6, 6, 6, 6, 6, 6, 6, 6, 6, 6, 6, 7, 7, 7, 7, 7, 7, 7, 7, 7, 7, 7, 7, 7, 7, 7, 7, 7, 7, 7, 7, 7, 7, 7, 7, 7, 7, 7, 7, 7, 7, 7, 7, 7, 7, 7, 7, 7, 7, 7, 7, 7, 7, 7, 7, 7, 7, 7, 7, 7, 7, 7, 7, 7, 7, 7, 7, 7, 7, 7, 7, 7, 7, 7, 7, 8, 8, 8, 8, 8, 8, 8, 8, 8, 8, 8, 8, 8, 8, 8, 8, 8, 8, 8, 8, 8, 8, 8, 8, 8, 8, 8, 8, 8, 8, 8, 8, 8, 8, 8, 8, 8, 8, 8, 8, 8, 8, 8, 8, 8, 8, 8, 8, 8, 8, 8, 8, 8, 8, 8, 8, 8, 8, 8, 8, 8, 8, 8, 8, 8, 8, 8, 8, 8, 8, 8, 8, 8, 8, 8, 8, 8, 8, 8, 8, 8, 8, 8, 8, 8, 8, 8, 8, 8, 8, 8, 8, 8, 8, 8, 8, 8, 8, 8, 8, 8, 8, 8, 8, 8, 8, 8, 8, 8, 8, 8, 8, 8, 8, 8, 8, 8, 8, 8, 8, 8, 8, 8, 8, 8, 8, 8, 8]⟩) v21) w fun v22 w =>
  kV P (convert 5 3 v22) w fun v23 w =>
  kV P (binV .add 3 (.tmp 19) (.tmp 23) (s4.getD 1 undef) v23) w fun v24 w =>
  K v24 w
theorem F107_eq (P : Program) (t0 : Value) (w : World) (K : Value → World → Prop) : funE P ⟨[], [], [(4, [0, 2]), (7, [0, 2]), (10, [0, 2])]⟩ Try.f107 [t0] w K = F107 P t0 w K := by kernel_rfl
theorem F107_ok (t0 : Value) (w : World) (K : Value → World → Prop) (h : F107 Try.prog t0 w K) : callsK Try.prog 107 #[t0] w K := calls_of_eq mixedZ Try.func107 (F107_eq _ t0 w K) h

/-- slices.siftDownOrdered[uint64] -/
def F109 (P : Program) (t0 t1 t2 t3 : Value) (w : World) (K : Value → World → Prop) : Prop :=
  loopT (fun R0 s0 w => ∀ _ : Nat → Value,
  kV P (binV .mul 3 (.const (.int .i64 2)) (.tmp 11) (.int .i64 2) (s0.getD 0 undef)) w fun v12 w =>
  kV P (binV .add 3 (.tmp 12) (.const (.int .i64 1)) v12 (.int .i64 1)) w fun v13 w =>
  kV P (binV .geq 3 (.tmp 14) (.tmp 15) v13 t2) w fun v16 w =>
  condK v16
  (K (.tuple #[]) w)
  (joinL (fun J2 =>
  drewK (fun w =>
  sV P (binV .add 3 (.tmp 17) (.const (.int .i64 1)) v13 (.int .i64 1)) w fun v18 =>
  sV P (binV .lss 3 (.tmp 18) (.tmp 19) v18 t2) w fun v20 =>
  gdS (yb v20) true (fun k => k t0) fun v22 =>
  gdS (yb v20) true (fun k => k t3) fun v23 =>
  gdS (yb v20) true (fun k => k v13) fun v24 =>
  gdS (yb v20) true (fun k => sV P (binV .add 3 (.tmp 23) (.tmp 24) v23 v24) w k) fun v25 =>
  gdS (yb v20) true (fun k => sV P (Instr.indexAt 93 v22 v25) w k) fun v26 =>
  gdS (yb v20) true (fun k => sV P (Instr.loadAt 28 v26) w k) fun v27 =>
  gdS (yb v20) true (fun k => k t0) fun v28 =>
  gdS (yb v20) true (fun k => k t3) fun v29 =>
  gdS (yb v20) true (fun k => k v13) fun v30 =>
  gdS (yb v20) true (fun k => sV P (binV .add 3 (.tmp 29) (.tmp 30) v29 v30) w k) fun v31 =>
  gdS (yb v20) true (fun k => sV P (binV .add 3 (.tmp 31) (.const (.int .i64 1)) v31 (.int .i64 1)) w k) fun v32 =>
  gdS (yb v20) true (fun k => sV P (Instr.indexAt 93 v28 v32) w k) fun v33 =>
  gdS (yb v20) true (fun k => sV P (Instr.loadAt 28 v33) w k) fun v34 =>
  joinK (fun J6 : Value → World → Prop => gdK (yb v20) true (fun k => kN P (callN (.func (.func 103) #[] #[]) #[v27, v34]) w k) w fun v35 w =>
  kN P (pickN v20 v35 (.bool false)) w fun v36_1 w =>
  J6 v36_1 w) fun v36 w =>
  condK v36
  (kV P (binV .add 3 (.tmp 37) (.const (.int .i64 1)) v13 (.int .i64 1)) w fun v38 w =>
  J2 [v38] w)
  (J2 [v13] w)) w) fun s2 w => ∀ _ : Nat → Value,
  drewK (fun w =>
  sV P (binV .add 3 (.tmp 40) (.tmp 41) t3 (s0.getD 0 undef)) w fun v42 =>
  sV P (Instr.indexAt 93 t0 v42) w fun v43 =>
  sV P (Instr.loadAt 28 v43) w fun v44 =>
  sV P (binV .add 3 (.tmp 46) (.tmp 47) t3 (s2.getD 0 undef)) w fun v48 =>
  sV P (Instr.indexAt 93 t0 v48) w fun v49 =>
  sV P (Instr.loadAt 28 v49) w fun v50 =>
  kN P (callN (.func (.func 103) #[] #[]) #[v44, v50]) w fun v51 w =>
  kV P (Op.unary .not v51) w fun v52 w =>
  condK v52
  (K (.tuple #[]) w)
  (joinL (fun J4 =>
  drewK (fun w =>
  pV P (binV .add 3 (.tmp 54) (.tmp 55) t3 (s0.getD 0 undef)) fun v56 =>
  pV P (binV .add 3 (.tmp 58) (.tmp 59) t3 (s2.getD 0 undef)) fun v60 =>
  pV P (binV .add 3 (.tmp 62) (.tmp 63) t3 (s2.getD 0 undef)) fun v64 =>
  pV P (Instr.indexAt 93 t0 v64) fun v65 =>
  pV P (binV .add 3 (.tmp 68) (.tmp 69) t3 (s0.getD 0 undef)) fun v70 =>
  pV P (Instr.indexAt 93 t0 v70) fun v71 =>
  (kV P (Instr.loadAt 28 v65) w fun v66 w =>
  kV P (Instr.loadAt 28 v71) w fun v72 w =>
  pV P (Instr.indexAt 93 t0 v56) fun v73 =>
  kU P (Instr.storeAt 28 v73 v66) w fun _ w =>
  pV P (Instr.indexAt 93 t0 v60) fun v74 =>
  kU P (Instr.storeAt 28 v74 v72) w fun _ w =>
  J4 [] w) ∧
  (kV P (Instr.loadAt 28 v71) w fun v72_1 w =>
  kV P (Instr.loadAt 28 v65) w fun v66_1 w =>
  pV P (Instr.indexAt 93 t0 v56) fun v73_1 =>
  kU P (Instr.storeAt 28 v73_1 v66_1) w fun _ w =>
  pV P (Instr.indexAt 93 t0 v60) fun v74_1 =>
  kU P (Instr.storeAt 28 v74_1 v72_1) w fun _ w =>
  J4 [] w)) w) fun s4 w => ∀ _ : Nat → Value,
  R0 [(s2.getD 0 undef)] w)) w)) [t1] w
theorem F109_eq (P : Program) (t0 t1 t2 t3 : Value) (w : World) (K : Value → World → Prop) : funE P ⟨[(3, 18), (6, 999), (5, 12)], [(1, [8])], [(5, [9]), (7, [])]⟩ Try.f109 [t0, t1, t2, t3] w K = F109 P t0 t1 t2 t3 w K := by kernel_rfl
theorem F109_ok (t0 t1 t2 t3 : Value) (w : World) (K : Value → World → Prop) (h : F109 Try.prog t0 t1 t2 t3 w K) : callsK Try.prog 109 #[t0, t1, t2, t3] w K := calls_of_eq mixedZ Try.func109 (F109_eq _ t0 t1 t2 t3 w K) h

/-- slices.nextPowerOfTwo -/
def F110 (P : Program) (t0 : Value) (w : World) (K : Value → World → Prop) : Prop :=
  kV P (convert 3 129 t0) w fun v4 w =>
  kN P (callN (.func (.func 86) #[] #[]) #[v4]) w fun v5 w =>
  kV P (binV .shl 129 (.const (.int .u64 1)) (.tmp 5) (.int .u64 1) v5) w fun v6 w =>
  K v6 w
theorem F110_eq (P : Program) (t0 : Value) (w : World) (K : Value → World → Prop) : funE P ⟨[], [], []⟩ Try.f110 [t0] w K = F110 P t0 w K := by kernel_rfl
theorem F110_ok (t0 : Value) (w : World) (K : Value → World → Prop) (h : F110 Try.prog t0 w K) : callsK Try.prog 110 #[t0] w K := calls_of_eq mixedZ Try.func110 (F110_eq _ t0 w K) h

/-- (*slices.xorshift).Next -/
def F111 (P : Program) (t0 : Value) (w : World) (K : Value → World → Prop) : Prop :=
  drewK (fun w =>
  sN P (nilN t0) w fun v4 =>
  sV P (Instr.loadAt 168 v4) w fun v5 =>
  sN P (nilN t0) w fun v7 =>
  sV P (Instr.loadAt 168 v7) w fun v8 =>
  sV P (binV .shl 168 (.tmp 8) (.const (.int .u64 13)) v8 (.int .u64 13)) w fun v9 =>
  kV P (binV .xor 168 (.tmp 5) (.tmp 9) v5 v9) w fun v10 w =>
  kN P (nilN t0) w fun v11 w =>
  kU P (Instr.storeAt 168 v11 v10) w fun _ w =>
  drewK (fun w =>
  sN P (nilN t0) w fun v13 =>
  sV P (Instr.loadAt 168 v13) w fun v14 =>
  sN P (nilN t0) w fun v16 =>
  sV P (Instr.loadAt 168 v16) w fun v17 =>
  sV P (binV .shr 168 (.tmp 17) (.const (.int .u64 7)) v17 (.int .u64 7)) w fun v18 =>
  kV P (binV .xor 168 (.tmp 14) (.tmp 18) v14 v18) w fun v19 w =>
  kN P (nilN t0) w fun v20 w =>
  kU P (Instr.storeAt 168 v20 v19) w fun _ w =>
  drewK (fun w =>
  sN P (nilN t0) w fun v22 =>
  sV P (Instr.loadAt 168 v22) w fun v23 =>
  sN P (nilN t0) w fun v25 =>
  sV P (Instr.loadAt 168 v25) w fun v26 =>
  sV P (binV .shl 168 (.tmp 26) (.const (.int .u64 17)) v26 (.int .u64 17)) w fun v27 =>
  kV P (binV .xor 168 (.tmp 23) (.tmp 27) v23 v27) w fun v28 w =>
  kN P (nilN t0) w fun v29 w =>
  kU P (Instr.storeAt 168 v29 v28) w fun _ w =>
  kN P (nilN t0) w fun v31 w =>
  kV P (Instr.loadAt 168 v31) w fun v32 w =>
  K v32 w) w) w) w
theorem F111_eq (P : Program) (t0 : Value) (w : World) (K : Value → World → Prop) : funE P ⟨[(3, 7), (2, 7), (1, 7)], [], []⟩ Try.f111 [t0] w K = F111 P t0 w K := by kernel_rfl
theorem F111_ok (t0 : Value) (w : World) (K : Value → World → Prop) (h : F111 Try.prog t0 w K) : callsK Try.prog 111 #[t0] w K := calls_of_eq mixedZ Try.func111 (F111_eq _ t0 w K) h

/-- slices.medianAdjacentOrdered[uint64] -/
def F112 (P : Program) (t0 t1 t2 : Value) (w : World) (K : Value → World → Prop) : Prop :=
  kV P (binV .sub 3 (.tmp 8) (.const (.int .i64 1)) t1 (.int .i64 1)) w fun v9 w =>
  kV P (binV .add 3 (.tmp 11) (.const (.int .i64 1)) t1 (.int .i64 1)) w fun v12 w =>
  kN P (callN (.func (.func 113) #[] #[]) #[t0, v9, t1, v12, t2]) w fun v14 w =>
  K v14 w
theorem F112_eq (P : Program) (t0 t1 t2 : Value) (w : World) (K : Value → World → Prop) : funE P ⟨[], [], []⟩ Try.f112 [t0, t1, t2] w K = F112 P t0 t1 t2 w K := by kernel_rfl
theorem F112_ok (t0 t1 t2 : Value) (w : World) (K : Value → World → Prop) (h : F112 Try.prog t0 t1 t2 w K) : callsK Try.prog 112 #[t0, t1, t2] w K := calls_of_eq mixedZ Try.func112 (F112_eq _ t0 t1 t2 w K) h

/-- slices.medianOrdered[uint64] -/
def F113 (P : Program) (t0 t1 t2 t3 t4 : Value) (w : World) (K : Value → World → Prop) : Prop :=
  kN P (callN (.func (.func 115) #[] #[]) #[t0, t1, t2, t4]) w fun v16 w =>
  kV P (Instr.extract v16 0) w fun v17 w =>
  kV P (Instr.extract v16 1) w fun v18 w =>
  kN P (callN (.func (.func 115) #[] #[]) #[t0, v18, t3, t4]) w fun v24 w =>
  kV P (Instr.extract v24 0) w fun v25 w =>
  kV P (Instr.extract v24 1) w fun v26 w =>
  kN P (callN (.func (.func 115) #[] #[]) #[t0, v17, v25, t4]) w fun v32 w =>
  kV P (Instr.extract v32 0) w fun v33 w =>
  kV P (Instr.extract v32 1) w fun v34 w =>
  K v34 w
theorem F113_eq (P : Program) (t0 t1 t2 t3 t4 : Value) (w : World) (K : Value → World → Prop) : funE P ⟨[], [], []⟩ Try.f113 [t0, t1, t2, t3, t4] w K = F113 P t0 t1 t2 t3 t4 w K := by kernel_rfl
theorem F113_ok (t0 t1 t2 t3 t4 : Value) (w : World) (K : Value → World → Prop) (h : F113 Try.prog t0 t1 t2 t3 t4 w K) : callsK Try.prog 113 #[t0, t1, t2, t3, t4] w K := calls_of_eq mixedZ Try.func113 (F113_eq _ t0 t1 t2 t3 t4 w K) h

/-- cmp.isNaN[uint64] -/
def F114 (P : Program) (t0 : Value) (w : World) (K : Value → World → Prop) : Prop :=
  kV P (binV .neq 28 (.tmp 3) (.tmp 4) t0 t0) w fun v5 w =>
  K v5 w
theorem F114_eq (P : Program) (t0 : Value) (w : World) (K : Value → World → Prop) : funE P ⟨[], [], []⟩ Try.f114 [t0] w K = F114 P t0 w K := by kernel_rfl
theorem F114_ok (t0 : Value) (w : World) (K : Value → World → Prop) (h : F114 Try.prog t0 w K) : callsK Try.prog 114 #[t0] w K := calls_of_eq mixedZ Try.func114 (F114_eq _ t0 w K) h

/-- slices.order2Ordered[uint64] -/
def F115 (P : Program) (t0 t1 t2 t3 : Value) (w : World) (K : Value → World → Prop) : Prop :=
  drewK (fun w =>
  sV P (Instr.indexAt 93 t0 t2) w fun v12 =>
  sV P (Instr.loadAt 28 v12) w fun v13 =>
  sV P (Instr.indexAt 93 t0 t1) w fun v16 =>
  sV P (Instr.loadAt 28 v16) w fun v17 =>
  kN P (callN (.func (.func 103) #[] #[]) #[v13, v17]) w fun v18 w =>
  condK v18
  (kN P (nilN t3) w fun v20 w =>
  kV P (Instr.loadAt 3 v20) w fun v21 w =>
  kV P (binV .add 3 (.tmp 21) (.const (.int .i64 1)) v21 (.int .i64 1)) w fun v22 w =>
  kN P (nilN t3) w fun v23 w =>
  kU P (Instr.storeAt 3 v23 v22) w fun _ w =>
  K (.tuple #[t2, t1]) w)
  (K (.tuple #[t1, t2]) w)) w
theorem F115_eq (P : Program) (t0 t1 t2 t3 : Value) (w : World) (K : Value → World → Prop) : funE P ⟨[(1, 8)], [], []⟩ Try.f115 [t0, t1, t2, t3] w K = F115 P t0 t1 t2 t3 w K := by kernel_rfl
theorem F115_ok (t0 t1 t2 t3 : Value) (w : World) (K : Value → World → Prop) (h : F115 Try.prog t0 t1 t2 t3 w K) : callsK Try.prog 115 #[t0, t1, t2, t3] w K := calls_of_eq mixedZ Try.func115 (F115_eq _ t0 t1 t2 t3 w K) h

end Go.Proofs.Ytgnibcaflidjmaa
