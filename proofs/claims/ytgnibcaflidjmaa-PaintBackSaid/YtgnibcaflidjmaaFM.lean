/- The formulas of functions of this seat, each tied to its calls; conditions: none. -/
import Derived.Test.YtgnibcaflidjmaaProg
import Derived.Test.YtgnibcaflidjmaaFx
import Derived.KernelRfl
namespace Go.Proofs.Ytgnibcaflidjmaa
open Go.Fx
set_option linter.unusedVariables false
set_option linter.constructorNameAsVariable false
set_option maxRecDepth 100000
theorem mixedM : Try.prog.follows .mixedOrders = true := by kernel_rfl
/-- (mintmark/paint.Bitmap).Paint -/
def F18 (P : Program) (t0 t1 : Value) (w : World) (K : Value → World → Prop) : Prop :=
  kV P (Instr.box 50 t0) w fun v2 w =>
  kV P (Instr.alloc 50 true (.tuple #[])) w fun v4 w =>
  kV P (Instr.loadAt 50 v2) w fun v5 w =>
  kN P (callN (.func (.func 41) #[] #[]) #[v5, t1, (.func (.func 42) #[] #[])]) w fun v7 w =>
  kU P (Instr.storeAt 50 v4 v7) w fun _ w =>
  retV P 50 v4 w fun r0 =>
  K r0 w
theorem F18_eq (P : Program) (t0 t1 : Value) (w : World) (K : Value → World → Prop) : funE P ⟨[], [], []⟩ Try.f18 [t0, t1] w K = F18 P t0 t1 w K := by kernel_rfl
theorem F18_ok (t0 t1 : Value) (w : World) (K : Value → World → Prop) (h : F18 Try.prog t0 t1 w K) : callsK Try.prog 18 #[t0, t1] w K := calls_of_eq mixedM Try.func18 (F18_eq _ t0 t1 w K) h

/-- (mintmark/paint.Bitmap).Wipe -/
def F19 (P : Program) (t0 t1 : Value) (w : World) (K : Value → World → Prop) : Prop :=
  kV P (Instr.box 50 t0) w fun v2 w =>
  kV P (Instr.alloc 50 true (.tuple #[])) w fun v4 w =>
  kV P (Instr.loadAt 50 v2) w fun v5 w =>
  kN P (callN (.func (.func 41) #[] #[]) #[v5, t1, (.func (.func 43) #[] #[])]) w fun v7 w =>
  kU P (Instr.storeAt 50 v4 v7) w fun _ w =>
  retV P 50 v4 w fun r0 =>
  K r0 w
theorem F19_eq (P : Program) (t0 t1 : Value) (w : World) (K : Value → World → Prop) : funE P ⟨[], [], []⟩ Try.f19 [t0, t1] w K = F19 P t0 t1 w K := by kernel_rfl
theorem F19_ok (t0 t1 : Value) (w : World) (K : Value → World → Prop) (h : F19 Try.prog t0 t1 w K) : callsK Try.prog 19 #[t0, t1] w K := calls_of_eq mixedM Try.func19 (F19_eq _ t0 t1 w K) h

/-- (mintmark/paint.Bitmap).Has -/
def F20 (P : Program) (t0 t1 : Value) (w : World) (K : Value → World → Prop) : Prop :=
  kV P (Instr.box 50 t0) w fun v2 w =>
  drewK (fun w =>
  sV P (Instr.fieldAt 50 v2 0) w fun v5 =>
  sV P (Instr.loadAt 48 v5) w fun v6 =>
  sN P (callN (.func (.func 44) #[] #[]) #[t1]) w fun v8 =>
  sV P (Instr.lookup 48 v6 v8 false) w fun v9 =>
  sV P (binV .rem 28 (.tmp 10) (.const (.int .u64 4096)) t1 (.int .u64 4096)) w fun v11 =>
  sV P (binV .quo 28 (.tmp 11) (.const (.int .u64 16)) v11 (.int .u64 16)) w fun v12 =>
  sV P (convert 28 3 v12) w fun v13 =>
  kN P (callN (.func (.func 45) #[] #[]) #[v9, v13]) w fun v14 w =>
  K v14 w) w
theorem F20_eq (P : Program) (t0 t1 : Value) (w : World) (K : Value → World → Prop) : funE P ⟨[(1, 9)], [], []⟩ Try.f20 [t0, t1] w K = F20 P t0 t1 w K := by kernel_rfl
theorem F20_ok (t0 t1 : Value) (w : World) (K : Value → World → Prop) (h : F20 Try.prog t0 t1 w K) : callsK Try.prog 20 #[t0, t1] w K := calls_of_eq mixedM Try.func20 (F20_eq _ t0 t1 w K) h

/-- (mintmark/paint.Bitmap).Count -/
def F21 (P : Program) (t0 : Value) (w : World) (K : Value → World → Prop) : Prop :=
  kV P (Instr.box 50 t0) w fun v1 w =>
  kV P (Instr.fieldAt 50 v1 0) w fun v6 w =>
  kV P (Instr.loadAt 48 v6) w fun v7 w =>
  kV P (Instr.range 48 v7) w fun v8 w =>
  loopT (fun R0 s0 w => ∀ _ : Nat → Value,
  kV P (Instr.next v8 false 0) w fun v9 w =>
  kV P (Instr.extract v9 0) w fun v10 w =>
  condK v10
  (kV P (Instr.entry v8) w fun v11 w =>
  kV P (Instr.extract v11 1) w fun v12 w =>
  kV P (Instr.alloc 88 true (.tuple #[])) w fun v5 w =>
  kU P (Instr.storeAt 88 v5 v12) w fun _ w =>
  kV P (Instr.loadAt 88 v5) w fun v14 w =>
  kN P (callN (.func (.func 46) #[] #[]) #[v14]) w fun v15 w =>
  kV P (binV .add 3 (.tmp 13) (.tmp 15) (s0.getD 0 undef) v15) w fun v16 w =>
  R0 [v16] w)
  (K (s0.getD 0 undef) w)) [(.int .i64 0)] w
theorem F21_eq (P : Program) (t0 : Value) (w : World) (K : Value → World → Prop) : funE P ⟨[], [(3, [3])], []⟩ Try.f21 [t0] w K = F21 P t0 w K := by kernel_rfl
theorem F21_ok (t0 : Value) (w : World) (K : Value → World → Prop) (h : F21 Try.prog t0 w K) : callsK Try.prog 21 #[t0] w K := calls_of_eq mixedM Try.func21 (F21_eq _ t0 w K) h

/-- mintmark/mintmarklaw25.one -/
def F22 (P : Program) (w : World) (K : Value → World → Prop) : Prop :=
  kV P (Instr.alloc 50 true (.tuple #[])) w fun v1 w =>
  kV P (Instr.loadAt 50 v1) w fun v3 w =>
  kV P (Instr.build 47 #[(0, (.int .u64 8)), (1, (.int .u64 24))]) w fun v4 w =>
  kV P (Instr.buildSlice 55 1 #[(0, v4)]) w fun v5 w =>
  kN P (callN (.func (.func 18) #[] #[]) #[v3, v5]) w fun v6 w =>
  kV P (Instr.alloc 50 true (.tuple #[])) w fun v2 w =>
  kU P (Instr.storeAt 50 v2 v6) w fun _ w =>
  kV P (Instr.loadAt 50 v2) w fun v7 w =>
  kN P (callN (.func (.func 21) #[] #[]) #[v7]) w fun v8 w =>
  kV P (binV .eql 3 (.tmp 8) (.const (.int .i64 2)) v8 (.int .i64 2)) w fun v9 w =>
  joinK (fun J0 : Value → World → Prop => gdK (yb v9) true (fun k => kV P (Instr.loadAt 50 v2) w k) w fun v11 w =>
  gdK (yb v9) true (fun k => kN P (callN (.func (.func 20) #[] #[]) #[v11, (.int .u64 31)]) w k) w fun v12 w =>
  kN P (pickN v9 v12 (.bool false)) w fun v13_1 w =>
  J0 v13_1 w) fun v13 w =>
  joinK (fun J1 : Value → World → Prop => gdK (yb v13) true (fun k => kV P (Instr.loadAt 50 v2) w k) w fun v15 w =>
  gdK (yb v13) true (fun k => kN P (callN (.func (.func 20) #[] #[]) #[v15, (.int .u64 32)]) w k) w fun v16 w =>
  gdK (yb v13) true (fun k => kV P (Op.unary .not v16) w k) w fun v17 w =>
  kN P (pickN v13 v17 (.bool false)) w fun v18_1 w =>
  J1 v18_1 w) fun v18 w =>
  joinK (fun J2 : Value → World → Prop => gdK (yb v18) true (fun k => kV P (Instr.loadAt 50 v1) w k) w fun v20 w =>
  gdK (yb v18) true (fun k => kN P (callN (.func (.func 21) #[] #[]) #[v20]) w k) w fun v21 w =>
  gdK (yb v18) true (fun k => kV P (binV .eql 3 (.tmp 21) (.const (.int .i64 0)) v21 (.int .i64 0)) w k) w fun v22 w =>
  kN P (pickN v18 v22 (.bool false)) w fun v23_1 w =>
  J2 v23_1 w) fun v23 w =>
  K v23 w
theorem F22_eq (P : Program) (w : World) (K : Value → World → Prop) : funE P ⟨[], [], []⟩ Try.f22 [] w K = F22 P  w K := by kernel_rfl
theorem F22_ok (w : World) (K : Value → World → Prop) (h : F22 Try.prog  w K) : callsK Try.prog 22 #[] w K := calls_of_eq mixedM Try.func22 (F22_eq _  w K) h

/-- (mintmark/paint.Bitmap).with -/
def F41 (P : Program) (t0 t1 t2 : Value) (w : World) (K : Value → World → Prop) : Prop :=
  kV P (Instr.box 50 t0) w fun v3 w =>
  kV P (Instr.alloc 50 true (.tuple #[])) w fun v6 w =>
  kV P (Instr.fieldAt 50 v3 0) w fun v12 w =>
  kV P (Instr.loadAt 48 v12) w fun v13 w =>
  kN P (callN (.func (.func 61) #[] #[]) #[v13]) w fun v14 w =>
  kV P (Instr.build 50 #[(0, v14)]) w fun v15 w =>
  kV P (Instr.alloc 50 true (.tuple #[])) w fun v7 w =>
  kU P (Instr.storeAt 50 v7 v15) w fun _ w =>
  joinL (fun J0 =>
  kV P (Instr.fieldAt 50 v7 0) w fun v16 w =>
  kV P (Instr.loadAt 48 v16) w fun v17 w =>
  kV P (binV .eql 48 (.tmp 17) (.const (.map none)) v17 (.map none)) w fun v18 w =>
  condK v18
  (kV P (Instr.makeMap 48 none) w fun v19 w =>
  kV P (Instr.fieldAt 50 v7 0) w fun v20 w =>
  kU P (Instr.storeAt 48 v20 v19) w fun _ w =>
  J0 [] w)
  (J0 [] w)) fun s0 w => ∀ _ : Nat → Value,
  kV P (Builtin.len_ #[55] 3 #[t1]) w fun v22 w =>
  loopT (fun R2 s2 w => ∀ _ : Nat → Value,
  kV P (binV .lss 3 (.tmp 23) (.tmp 22) (s2.getD 0 undef) v22) w fun v24 w =>
  condK v24
  (joinL (fun J4 =>
  kV P (Instr.indexAt 55 t1 (s2.getD 0 undef)) w fun v25 w =>
  kV P (Instr.loadAt 47 v25) w fun v26 w =>
  kV P (Instr.alloc 47 true (.tuple #[])) w fun v9 w =>
  kU P (Instr.storeAt 47 v9 v26) w fun _ w =>
  kV P (Instr.loadAt 47 v9) w fun v27 w =>
  kN P (callN (.func (.func 62) #[] #[]) #[v27]) w fun v28 w =>
  kV P (Op.unary .not v28) w fun v29 w =>
  condK v29
  (J4 [] w)
  (kV P (Instr.fieldAt 47 v9 0) w fun v30 w =>
  kV P (Instr.loadAt 28 v30) w fun v31 w =>
  kN P (callN (.func (.func 44) #[] #[]) #[v31]) w fun v32 w =>
  loopT (fun R6 s6 w => ∀ _ : Nat → Value,
  kV P (Instr.fieldAt 47 v9 1) w fun v34 w =>
  kV P (Instr.loadAt 28 v34) w fun v35 w =>
  kV P (binV .sub 28 (.tmp 35) (.const (.int .u64 1)) v35 (.int .u64 1)) w fun v36 w =>
  kN P (callN (.func (.func 44) #[] #[]) #[v36]) w fun v37 w =>
  kV P (binV .leq 28 (.tmp 33) (.tmp 37) (s6.getD 0 undef) v37) w fun v38 w =>
  condK v38
  (joinL (fun J8 =>
  joinL (fun J10 =>
  drewK (fun w =>
  relX fun R12 =>
  postX R12 (fun p12_41 => allX R12 w fun V12 w => True → (okX R12 w p12_41) t2 w) fun p12_41 =>
  postX R12 (fun p12_42 => allX R12 w fun V12 w => True → kV P (Instr.fieldAt 50 v7 0) w (okX R12 w p12_42)) fun p12_42 =>
  postX R12 (fun p12_43 => allX R12 w fun V12 w => p12_42 (V12 42) w ∧ True → kV P (Instr.loadAt 48 (V12 42)) w (okX R12 w p12_43)) fun p12_43 =>
  postX R12 (fun p12_44 => allX R12 w fun V12 w => True → (okX R12 w p12_44) (s6.getD 0 undef) w) fun p12_44 =>
  postX R12 (fun p12_45 => allX R12 w fun V12 w => p12_43 (V12 43) w ∧ p12_44 (V12 44) w ∧ True → kV P (Instr.lookup 48 (V12 43) (V12 44) false) w (okX R12 w p12_45)) fun p12_45 =>
  postX R12 (fun p12_46 => allX R12 w fun V12 w => True → kV P (Instr.loadAt 47 v9) w (okX R12 w p12_46)) fun p12_46 =>
  postX R12 (fun p12_47 => allX R12 w fun V12 w => True → (okX R12 w p12_47) (s6.getD 0 undef) w) fun p12_47 =>
  postX R12 (fun p12_48 => allX R12 w fun V12 w => p12_46 (V12 46) w ∧ p12_47 (V12 47) w ∧ True → kN P (callN (.func (.func 63) #[] #[]) #[(V12 46), (V12 47)]) w (okX R12 w p12_48)) fun p12_48 =>
  postX R12 (fun p12_49 => allX R12 w fun V12 w => p12_41 (V12 41) w ∧ p12_45 (V12 45) w ∧ p12_48 (V12 48) w ∧ True → kN P (callN (V12 41) #[(V12 45), (V12 48)]) w (okX R12 w p12_49)) fun p12_49 =>
  postX R12 (fun p12_11 => allX R12 w fun V12 w => True → kV P (Instr.alloc 88 true (.tuple #[])) w (okX R12 w p12_11)) fun p12_11 =>
  allX R12 w fun V12 w => p12_41 (V12 41) w ∧ p12_42 (V12 42) w ∧ p12_43 (V12 43) w ∧ p12_44 (V12 44) w ∧ p12_45 (V12 45) w ∧ p12_46 (V12 46) w ∧ p12_47 (V12 47) w ∧ p12_48 (V12 48) w ∧ p12_49 (V12 49) w ∧ p12_11 (V12 11) w ∧ True → xDist V12 [11] →
  kU P (Instr.storeAt 88 (V12 11) (V12 49)) w fun _ w =>
  J10 [(V12 11)] w) w) fun s10 w => ∀ _ : Nat → Value,
  kV P (Instr.fieldAt 50 v7 0) w fun v50 w =>
  kV P (Instr.loadAt 48 v50) w fun v51 w =>
  kV P (Instr.loadAt 88 (s10.getD 0 undef)) w fun v53 w =>
  kU P (Instr.mapUpdate 48 v51 (s6.getD 0 undef) v53) w fun _ w =>
  kV P (Instr.loadAt 88 (s10.getD 0 undef)) w fun v54 w =>
  kN P (callN (.func (.func 64) #[] #[]) #[v54]) w fun v55 w =>
  kV P (Op.unary .not v55) w fun v56 w =>
  condK v56
  (kV P (Instr.fieldAt 50 v7 0) w fun v57 w =>
  kV P (Instr.loadAt 48 v57) w fun v58 w =>
  kV P (Builtin.delete_ #[48, 28] 0 #[v58, (s6.getD 0 undef)]) w fun _ w =>
  J8 [] w)
  (J8 [] w)) fun s8 w => ∀ _ : Nat → Value,
  kV P (binV .add 28 (.tmp 39) (.const (.int .u64 1)) (s6.getD 0 undef) (.int .u64 1)) w fun v40 w =>
  R6 [v40] w)
  (J4 [] w)) [v32] w)) fun s4 w => ∀ _ : Nat → Value,
  kV P (binV .add 3 (.tmp 23) (.const (.int .i64 1)) (s2.getD 0 undef) (.int .i64 1)) w fun v60 w =>
  R2 [v60] w)
  (kV P (Instr.loadAt 50 v7) w fun v61 w =>
  kU P (Instr.storeAt 50 v6 v61) w fun _ w =>
  retV P 50 v6 w fun r13 =>
  K r13 w)) [(.int .i64 0)] w
theorem F41_eq (P : Program) (t0 t1 t2 : Value) (w : World) (K : Value → World → Prop) : funE P ⟨[(11, 1010)], [(5, [23]), (9, [10])], [(4, []), (15, []), (10, []), (12, [11])]⟩ Try.f41 [t0, t1, t2] w K = F41 P t0 t1 t2 w K := by kernel_rfl
theorem F41_ok (t0 t1 t2 : Value) (w : World) (K : Value → World → Prop) (h : F41 Try.prog t0 t1 t2 w K) : callsK Try.prog 41 #[t0, t1, t2] w K := calls_of_eq mixedM Try.func41 (F41_eq _ t0 t1 t2 w K) h

/-- (mintmark/paint.Bitmap).Paint$1 -/
def F42 (P : Program) (t0 t1 : Value) (w : World) (K : Value → World → Prop) : Prop :=
  kV P (Instr.box 88 t0) w fun v2 w =>
  kV P (Instr.box 88 t1) w fun v3 w =>
  kV P (Instr.alloc 88 true (.tuple #[])) w fun v4 w =>
  loopT (fun R0 s0 w => ∀ _ : Nat → Value,
  kV P (binV .lss 3 (.tmp 6) (.const (.int .i64 4)) (s0.getD 0 undef) (.int .i64 4)) w fun v7 w =>
  condK v7
  (drewK (fun w =>
  sV P (Instr.indexAt 88 v2 (s0.getD 0 undef)) w fun v10 =>
  sV P (Instr.loadAt 28 v10) w fun v11 =>
  sV P (Instr.indexAt 88 v3 (s0.getD 0 undef)) w fun v13 =>
  sV P (Instr.loadAt 28 v13) w fun v14 =>
  kV P (binV .or 28 (.tmp 11) (.tmp 14) v11 v14) w fun v15 w =>
  kV P (Instr.indexAt 88 v2 (s0.getD 0 undef)) w fun v16 w =>
  kU P (Instr.storeAt 28 v16 v15) w fun _ w =>
  kV P (binV .add 3 (.tmp 6) (.const (.int .i64 1)) (s0.getD 0 undef) (.int .i64 1)) w fun v17 w =>
  R0 [v17] w) w)
  (kV P (Instr.loadAt 88 v2) w fun v18 w =>
  kU P (Instr.storeAt 88 v4 v18) w fun _ w =>
  retV P 88 v4 w fun r2 =>
  K r2 w)) [(.int .i64 0)] w
theorem F42_eq (P : Program) (t0 t1 : Value) (w : World) (K : Value → World → Prop) : funE P ⟨[(4, 6)], [(2, [6])], []⟩ Try.f42 [t0, t1] w K = F42 P t0 t1 w K := by kernel_rfl
theorem F42_ok (t0 t1 : Value) (w : World) (K : Value → World → Prop) (h : F42 Try.prog t0 t1 w K) : callsK Try.prog 42 #[t0, t1] w K := calls_of_eq mixedM Try.func42 (F42_eq _ t0 t1 w K) h

/-- (mintmark/tags.Set).Without -/
def F43 (P : Program) (t0 t1 : Value) (w : World) (K : Value → World → Prop) : Prop :=
  kV P (Instr.box 88 t0) w fun v2 w =>
  kV P (Instr.box 88 t1) w fun v3 w =>
  kV P (Instr.alloc 88 true (.tuple #[])) w fun v4 w =>
  loopT (fun R0 s0 w => ∀ _ : Nat → Value,
  kV P (binV .lss 3 (.tmp 6) (.const (.int .i64 4)) (s0.getD 0 undef) (.int .i64 4)) w fun v7 w =>
  condK v7
  (drewK (fun w =>
  sV P (Instr.indexAt 88 v2 (s0.getD 0 undef)) w fun v10 =>
  sV P (Instr.loadAt 28 v10) w fun v11 =>
  sV P (Instr.indexAt 88 v3 (s0.getD 0 undef)) w fun v13 =>
  sV P (Instr.loadAt 28 v13) w fun v14 =>
  kV P (binV .andNot 28 (.tmp 11) (.tmp 14) v11 v14) w fun v15 w =>
  kV P (Instr.indexAt 88 v2 (s0.getD 0 undef)) w fun v16 w =>
  kU P (Instr.storeAt 28 v16 v15) w fun _ w =>
  kV P (binV .add 3 (.tmp 6) (.const (.int .i64 1)) (s0.getD 0 undef) (.int .i64 1)) w fun v17 w =>
  R0 [v17] w) w)
  (kV P (Instr.loadAt 88 v2) w fun v18 w =>
  kU P (Instr.storeAt 88 v4 v18) w fun _ w =>
  retV P 88 v4 w fun r2 =>
  K r2 w)) [(.int .i64 0)] w
theorem F43_eq (P : Program) (t0 t1 : Value) (w : World) (K : Value → World → Prop) : funE P ⟨[(4, 6)], [(2, [6])], []⟩ Try.f43 [t0, t1] w K = F43 P t0 t1 w K := by kernel_rfl
theorem F43_ok (t0 t1 : Value) (w : World) (K : Value → World → Prop) (h : F43 Try.prog t0 t1 w K) : callsK Try.prog 43 #[t0, t1] w K := calls_of_eq mixedM Try.func43 (F43_eq _ t0 t1 w K) h

/-- mintmark/paint.number -/
def F44 (P : Program) (t0 : Value) (w : World) (K : Value → World → Prop) : Prop :=
  kV P (binV .quo 28 (.tmp 3) (.const (.int .u64 4096)) t0 (.int .u64 4096)) w fun v4 w =>
  K v4 w
theorem F44_eq (P : Program) (t0 : Value) (w : World) (K : Value → World → Prop) : funE P ⟨[], [], []⟩ Try.f44 [t0] w K = F44 P t0 w K := by kernel_rfl
theorem F44_ok (t0 : Value) (w : World) (K : Value → World → Prop) (h : F44 Try.prog t0 w K) : callsK Try.prog 44 #[t0] w K := calls_of_eq mixedM Try.func44 (F44_eq _ t0 w K) h

/-- (mintmark/tags.Set).Get -/
def F45 (P : Program) (t0 t1 : Value) (w : World) (K : Value → World → Prop) : Prop :=
  kV P (Instr.box 88 t0) w fun v2 w =>
  kN P (callN (.func (.func 65) #[] #[]) #[t1]) w fun v6 w =>
  joinK (fun J0 : Value → World → Prop => gdK (yb v6) true (fun k => k t1 w) w fun v8 w =>
  gdK (yb v6) true (fun k => kV P (binV .quo 3 (.tmp 8) (.const (.int .i64 64)) v8 (.int .i64 64)) w k) w fun v9 w =>
  gdK (yb v6) true (fun k => kV P (Instr.indexAt 88 v2 v9) w k) w fun v10 w =>
  gdK (yb v6) true (fun k => kV P (Instr.loadAt 28 v10) w k) w fun v11 w =>
  gdK (yb v6) true (fun k => k t1 w) w fun v12 w =>
  gdK (yb v6) true (fun k => kV P (binV .rem 3 (.tmp 12) (.const (.int .i64 64)) v12 (.int .i64 64)) w k) w fun v13 w =>
  gdK (yb v6) true (fun k => kV P (binV .shr 28 (.tmp 11) (.tmp 13) v11 v13) w k) w fun v14 w =>
  gdK (yb v6) true (fun k => kV P (binV .and 28 (.tmp 14) (.const (.int .u64 1)) v14 (.int .u64 1)) w k) w fun v15 w =>
  gdK (yb v6) true (fun k => kV P (binV .neq 28 (.tmp 15) (.const (.int .u64 0)) v15 (.int .u64 0)) w k) w fun v16 w =>
  kN P (pickN v6 v16 (.bool false)) w fun v17_1 w =>
  J0 v17_1 w) fun v17 w =>
  K v17 w
theorem F45_eq (P : Program) (t0 t1 : Value) (w : World) (K : Value → World → Prop) : funE P ⟨[], [], []⟩ Try.f45 [t0, t1] w K = F45 P t0 t1 w K := by kernel_rfl
theorem F45_ok (t0 t1 : Value) (w : World) (K : Value → World → Prop) (h : F45 Try.prog t0 t1 w K) : callsK Try.prog 45 #[t0, t1] w K := calls_of_eq mixedM Try.func45 (F45_eq _ t0 t1 w K) h

/-- (mintmark/tags.Set).Count -/
def F46 (P : Program) (t0 : Value) (w : World) (K : Value → World → Prop) : Prop :=
  kV P (Instr.box 88 t0) w fun v1 w =>
  kV P (Instr.loadAt 88 v1) w fun v6 w =>
  loopT (fun R0 s0 w => ∀ _ : Nat → Value,
  kV P (binV .lss 3 (.tmp 7) (.const (.int .i64 4)) (s0.getD 1 undef) (.int .i64 4)) w fun v8 w =>
  condK v8
  (kV P (Instr.index 88 v6 (s0.getD 1 undef)) w fun v9 w =>
  kN P (callN (.func (.func 66) #[] #[]) #[v9]) w fun v12 w =>
  kV P (binV .add 3 (.tmp 10) (.tmp 12) (s0.getD 0 undef) v12) w fun v13 w =>
  kV P (binV .add 3 (.tmp 7) (.const (.int .i64 1)) (s0.getD 1 undef) (.int .i64 1)) w fun v14 w =>
  R0 [v13, v14] w)
  (K (s0.getD 0 undef) w)) [(.int .i64 0), (.int .i64 0)] w
theorem F46_eq (P : Program) (t0 : Value) (w : World) (K : Value → World → Prop) : funE P ⟨[], [(3, [3, 7])], []⟩ Try.f46 [t0] w K = F46 P t0 w K := by kernel_rfl
theorem F46_ok (t0 : Value) (w : World) (K : Value → World → Prop) (h : F46 Try.prog t0 w K) : callsK Try.prog 46 #[t0] w K := calls_of_eq mixedM Try.func46 (F46_eq _ t0 w K) h

/-- maps.Clone[map[uint64]mintmark/tags.Set,uint64,mintmark/tags.Set] -/
def F61 (P : Program) (t0 : Value) (w : World) (K : Value → World → Prop) : Prop :=
  kV P (binV .eql 48 (.tmp 3) (.const (.map none)) t0 (.map none)) w fun v4 w =>
  condK v4
  (K (.map none) w)
  (kV P (Instr.makeInterface 48 t0) w fun v6 w =>
  kN P (callN (.func (.func 82) #[] #[]) #[v6]) w fun v7 w =>
  kV P (Instr.typeAssert v7 20 48 false) w fun v8 w =>
  K v8 w)
theorem F61_eq (P : Program) (t0 : Value) (w : World) (K : Value → World → Prop) : funE P ⟨[], [], []⟩ Try.f61 [t0] w K = F61 P t0 w K := by kernel_rfl
theorem F61_ok (t0 : Value) (w : World) (K : Value → World → Prop) (h : F61 Try.prog t0 w K) : callsK Try.prog 61 #[t0] w K := calls_of_eq mixedM Try.func61 (F61_eq _ t0 w K) h

/-- mintmark/paint.may -/
def F62 (P : Program) (t0 : Value) (w : World) (K : Value → World → Prop) : Prop :=
  kV P (Instr.box 47 t0) w fun v1 w =>
  drewK (fun w =>
  sV P (Instr.fieldAt 47 v1 0) w fun v3 =>
  sV P (Instr.loadAt 28 v3) w fun v4 =>
  sV P (Instr.fieldAt 47 v1 1) w fun v5 =>
  sV P (Instr.loadAt 28 v5) w fun v6 =>
  sV P (binV .lss 28 (.tmp 4) (.tmp 6) v4 v6) w fun v7 =>
  joinK (fun J0 : Value → Prop => gdS (yb v7) true (fun k => sV P (Instr.fieldAt 47 v1 1) w k) fun v9 =>
  gdS (yb v7) true (fun k => sV P (Instr.loadAt 28 v9) w k) fun v10 =>
  gdS (yb v7) true (fun k => sV P (binV .leq 28 (.tmp 10) (.const (.int .u64 274877906944)) v10 (.int .u64 274877906944)) w k) fun v11 =>
  sN P (pickN v7 v11 (.bool false)) w fun v12_1 =>
  J0 v12_1) fun v12 =>
  joinK (fun J1 : Value → Prop => gdS (yb v12) true (fun k => sV P (Instr.fieldAt 47 v1 1) w k) fun v14 =>
  gdS (yb v12) true (fun k => sV P (Instr.loadAt 28 v14) w k) fun v15 =>
  gdS (yb v12) true (fun k => sV P (binV .sub 28 (.tmp 15) (.const (.int .u64 1)) v15 (.int .u64 1)) w k) fun v16 =>
  gdS (yb v12) true (fun k => sN P (callN (.func (.func 44) #[] #[]) #[v16]) w k) fun v17 =>
  gdS (yb v12) true (fun k => sV P (Instr.fieldAt 47 v1 0) w k) fun v18 =>
  gdS (yb v12) true (fun k => sV P (Instr.loadAt 28 v18) w k) fun v19 =>
  gdS (yb v12) true (fun k => sN P (callN (.func (.func 44) #[] #[]) #[v19]) w k) fun v20 =>
  gdS (yb v12) true (fun k => sV P (binV .sub 28 (.tmp 17) (.tmp 20) v17 v20) w k) fun v21 =>
  gdS (yb v12) true (fun k => sV P (binV .lss 28 (.tmp 21) (.const (.int .u64 64)) v21 (.int .u64 64)) w k) fun v22 =>
  sN P (pickN v12 v22 (.bool false)) w fun v23_1 =>
  J1 v23_1) fun v23 =>
  K v23 w) w
theorem F62_eq (P : Program) (t0 : Value) (w : World) (K : Value → World → Prop) : funE P ⟨[], [], []⟩ Try.f62 [t0] w K = F62 P t0 w K := by kernel_rfl
theorem F62_ok (t0 : Value) (w : World) (K : Value → World → Prop) (h : F62 Try.prog t0 w K) : callsK Try.prog 62 #[t0] w K := calls_of_eq mixedM Try.func62 (F62_eq _ t0 w K) h

/-- mintmark/paint.cover -/
def F63 (P : Program) (t0 t1 : Value) (w : World) (K : Value → World → Prop) : Prop :=
  kV P (Instr.box 47 t0) w fun v2 w =>
  kV P (Instr.alloc 88 true (.tuple #[])) w fun v4 w =>
  kV P (binV .mul 28 (.tmp 8) (.const (.int .u64 4096)) t1 (.int .u64 4096)) w fun v9 w =>
  drewK (fun w =>
  sV P (Instr.fieldAt 47 v2 0) w fun v10 =>
  sV P (Instr.loadAt 28 v10) w fun v11 =>
  sV P (Builtin.max_ #[28, 28] 28 #[v11, v9]) w fun v13 =>
  sV P (Instr.fieldAt 47 v2 1) w fun v14 =>
  sV P (Instr.loadAt 28 v14) w fun v15 =>
  sV P (binV .add 28 (.tmp 16) (.const (.int .u64 4096)) v9 (.int .u64 4096)) w fun v17 =>
  sV P (Builtin.min_ #[28, 28] 28 #[v15, v17]) w fun v18 =>
  kV P (binV .sub 28 (.tmp 19) (.tmp 20) v13 v9) w fun v21 w =>
  kV P (convert 28 3 v21) w fun v22 w =>
  kV P (binV .sub 28 (.tmp 23) (.tmp 24) v18 v13) w fun v25 w =>
  kV P (convert 28 3 v25) w fun v26 w =>
  kN P (callN (.func (.func 83) #[] #[]) #[v22, v26]) w fun v27 w =>
  kU P (Instr.storeAt 88 v4 v27) w fun _ w =>
  retV P 88 v4 w fun r0 =>
  K r0 w) w
theorem F63_eq (P : Program) (t0 t1 : Value) (w : World) (K : Value → World → Prop) : funE P ⟨[], [], []⟩ Try.f63 [t0, t1] w K = F63 P t0 t1 w K := by kernel_rfl
theorem F63_ok (t0 t1 : Value) (w : World) (K : Value → World → Prop) (h : F63 Try.prog t0 t1 w K) : callsK Try.prog 63 #[t0, t1] w K := calls_of_eq mixedM Try.func63 (F63_eq _ t0 t1 w K) h

/-- (mintmark/tags.Set).Any -/
def F64 (P : Program) (t0 : Value) (w : World) (K : Value → World → Prop) : Prop :=
  kV P (Instr.box 88 t0) w fun v1 w =>
  kV P (Instr.loadAt 88 v1) w fun v3 w =>
  kV P (Instr.build 88 #[]) w fun v4 w =>
  kV P (binV .neq 88 (.tmp 3) (.tmp 4) v3 v4) w fun v5 w =>
  K v5 w
theorem F64_eq (P : Program) (t0 : Value) (w : World) (K : Value → World → Prop) : funE P ⟨[], [], []⟩ Try.f64 [t0] w K = F64 P t0 w K := by kernel_rfl
theorem F64_ok (t0 : Value) (w : World) (K : Value → World → Prop) (h : F64 Try.prog t0 w K) : callsK Try.prog 64 #[t0] w K := calls_of_eq mixedM Try.func64 (F64_eq _ t0 w K) h

/-- mintmark/tags.is -/
def F65 (P : Program) (t0 : Value) (w : World) (K : Value → World → Prop) : Prop :=
  kV P (binV .geq 3 (.tmp 3) (.const (.int .i64 0)) t0 (.int .i64 0)) w fun v4 w =>
  joinK (fun J0 : Value → World → Prop => gdK (yb v4) true (fun k => k t0 w) w fun v6 w =>
  gdK (yb v4) true (fun k => kV P (binV .lss 3 (.tmp 6) (.const (.int .i64 256)) v6 (.int .i64 256)) w k) w fun v7 w =>
  kN P (pickN v4 v7 (.bool false)) w fun v8_1 w =>
  J0 v8_1 w) fun v8 w =>
  K v8 w
theorem F65_eq (P : Program) (t0 : Value) (w : World) (K : Value → World → Prop) : funE P ⟨[], [], []⟩ Try.f65 [t0] w K = F65 P t0 w K := by kernel_rfl
theorem F65_ok (t0 : Value) (w : World) (K : Value → World → Prop) (h : F65 Try.prog t0 w K) : callsK Try.prog 65 #[t0] w K := calls_of_eq mixedM Try.func65 (F65_eq _ t0 w K) h

/-- math/bits.OnesCount64 -/
def F66 (P : Program) (t0 : Value) (w : World) (K : Value → World → Prop) : Prop :=
  kV P (binV .shr 28 (.tmp 3) (.const (.int .u64 1)) t0 (.int .u64 1)) w fun v4 w =>
  kV P (binV .and 28 (.tmp 4) (.const (.int .u64 6148914691236517205)) v4 (.int .u64 6148914691236517205)) w fun v5 w =>
  kV P (binV .and 28 (.tmp 6) (.const (.int .u64 6148914691236517205)) t0 (.int .u64 6148914691236517205)) w fun v7 w =>
  kV P (binV .add 28 (.tmp 5) (.tmp 7) v5 v7) w fun v8 w =>
  kV P (binV .shr 28 (.tmp 9) (.const (.int .u64 2)) v8 (.int .u64 2)) w fun v10 w =>
  kV P (binV .and 28 (.tmp 10) (.const (.int .u64 3689348814741910323)) v10 (.int .u64 3689348814741910323)) w fun v11 w =>
  kV P (binV .and 28 (.tmp 12) (.const (.int .u64 3689348814741910323)) v8 (.int .u64 3689348814741910323)) w fun v13 w =>
  kV P (binV .add 28 (.tmp 11) (.tmp 13) v11 v13) w fun v14 w =>
  kV P (binV .shr 28 (.tmp 15) (.const (.int .u64 4)) v14 (.int .u64 4)) w fun v16 w =>
  kV P (binV .add 28 (.tmp 16) (.tmp 17) v16 v14) w fun v18 w =>
  kV P (binV .and 28 (.tmp 18) (.const (.int .u64 1085102592571150095)) v18 (.int .u64 1085102592571150095)) w fun v19 w =>
  kV P (binV .shr 28 (.tmp 21) (.const (.int .u64 8)) v19 (.int .u64 8)) w fun v22 w =>
  kV P (binV .add 28 (.tmp 20) (.tmp 22) v19 v22) w fun v23 w =>
  kV P (binV .shr 28 (.tmp 25) (.const (.int .u64 16)) v23 (.int .u64 16)) w fun v26 w =>
  kV P (binV .add 28 (.tmp 24) (.tmp 26) v23 v26) w fun v27 w =>
  kV P (binV .shr 28 (.tmp 29) (.const (.int .u64 32)) v27 (.int .u64 32)) w fun v30 w =>
  kV P (binV .add 28 (.tmp 28) (.tmp 30) v27 v30) w fun v31 w =>
  kV P (convert 28 3 v31) w fun v33 w =>
  kV P (binV .and 3 (.tmp 33) (.const (.int .i64 127)) v33 (.int .i64 127)) w fun v34 w =>
  K v34 w
theorem F66_eq (P : Program) (t0 : Value) (w : World) (K : Value → World → Prop) : funE P ⟨[], [], []⟩ Try.f66 [t0] w K = F66 P t0 w K := by kernel_rfl
theorem F66_ok (t0 : Value) (w : World) (K : Value → World → Prop) (h : F66 Try.prog t0 w K) : callsK Try.prog 66 #[t0] w K := calls_of_eq mixedM Try.func66 (F66_eq _ t0 w K) h

/-- mintmark/tags.Cover -/
def F83 (P : Program) (t0 t1 : Value) (w : World) (K : Value → World → Prop) : Prop :=
  kV P (Instr.alloc 88 true (.tuple #[])) w fun v4 w =>
  kV P (Instr.alloc 88 true (.tuple #[])) w fun v5 w =>
  kV P (binV .lss 3 (.tmp 8) (.const (.int .i64 1)) t1 (.int .i64 1)) w fun v9 w =>
  joinK (fun J0 : Value → World → Prop => gdK (yb v9) false (fun k => k t0 w) w fun v11 w =>
  gdK (yb v9) false (fun k => kV P (binV .geq 3 (.tmp 11) (.const (.int .i64 4096)) v11 (.int .i64 4096)) w k) w fun v12 w =>
  kN P (pickN v9 (.bool true) v12) w fun v13_1 w =>
  J0 v13_1 w) fun v13 w =>
  condK v13
  (kV P (Instr.loadAt 88 v5) w fun v14 w =>
  kU P (Instr.storeAt 88 v4 v14) w fun _ w =>
  retV P 88 v4 w fun r1 =>
  K r1 w)
  (joinL (fun J2 =>
  kV P (binV .lss 3 (.tmp 15) (.const (.int .i64 0)) t0 (.int .i64 0)) w fun v16 w =>
  condK v16
  (kV P (binV .lss 3 (.tmp 17) (.const (.int .i64 (-4096))) t0 (.int .i64 (-4096))) w fun v18 w =>
  joinK (fun J8 : Value → World → Prop => gdK (yb v18) true (fun k => k t0 w) w fun v20 w =>
  gdK (yb v18) true (fun k => k t1 w) w fun v21 w =>
  gdK (yb v18) true (fun k => kV P (binV .add 3 (.tmp 20) (.tmp 21) v20 v21) w k) w fun v22 w =>
  gdK (yb v18) true (fun k => kV P (binV .leq 3 (.tmp 22) (.const (.int .i64 0)) v22 (.int .i64 0)) w k) w fun v23 w =>
  kN P (pickN v18 v23 (.bool false)) w fun v24_1 w =>
  J8 v24_1 w) fun v24 w =>
  joinK (fun J9 : Value → World → Prop => gdK (yb v24) false (fun k => k t1 w) w fun v26 w =>
  gdK (yb v24) false (fun k => k t0 w) w fun v27 w =>
  gdK (yb v24) false (fun k => kV P (Op.unary .neg v27) w k) w fun v28 w =>
  gdK (yb v24) false (fun k => kV P (binV .leq 3 (.tmp 26) (.tmp 28) v26 v28) w k) w fun v29 w =>
  kN P (pickN v24 (.bool true) v29) w fun v30_1 w =>
  J9 v30_1 w) fun v30 w =>
  condK v30
  (kV P (Instr.loadAt 88 v5) w fun v31 w =>
  kU P (Instr.storeAt 88 v4 v31) w fun _ w =>
  retV P 88 v4 w fun r10 =>
  K r10 w)
  (kV P (binV .add 3 (.tmp 32) (.tmp 33) t1 t0) w fun v34 w =>
  J2 [(.int .i64 0), v34] w))
  (J2 [t0, t1] w)) fun s2 w => ∀ _ : Nat → Value,
  kV P (binV .sub 3 (.const (.int .i64 4096)) (.tmp 37) (.int .i64 4096) (s2.getD 0 undef)) w fun v38 w =>
  kV P (Builtin.min_ #[3, 3] 3 #[(s2.getD 1 undef), v38]) w fun v39 w =>
  kV P (binV .add 3 (.tmp 35) (.tmp 39) (s2.getD 0 undef) v39) w fun v40 w =>
  kV P (binV .sub 3 (.tmp 40) (.const (.int .i64 1)) v40 (.int .i64 1)) w fun v41 w =>
  loopT (fun R4 s4 w => ∀ _ : Nat → Value,
  kV P (binV .lss 3 (.tmp 42) (.const (.int .i64 256)) (s4.getD 0 undef) (.int .i64 256)) w fun v43 w =>
  condK v43
  (kV P (Instr.loadAt 88 v5) w fun v45 w =>
  kV P (binV .quo 3 (.tmp 48) (.const (.int .i64 16)) (s2.getD 0 undef) (.int .i64 16)) w fun v49 w =>
  kV P (binV .geq 3 (.tmp 47) (.tmp 49) (s4.getD 0 undef) v49) w fun v50 w =>
  joinK (fun J6 : Value → World → Prop => gdK (yb v50) true (fun k => k (s4.getD 0 undef) w) w fun v52 w =>
  gdK (yb v50) true (fun k => k v41 w) w fun v53 w =>
  gdK (yb v50) true (fun k => kV P (binV .quo 3 (.tmp 53) (.const (.int .i64 16)) v53 (.int .i64 16)) w k) w fun v54 w =>
  gdK (yb v50) true (fun k => kV P (binV .leq 3 (.tmp 52) (.tmp 54) v52 v54) w k) w fun v55 w =>
  kN P (pickN v50 v55 (.bool false)) w fun v56_1 w =>
  J6 v56_1 w) fun v56 w =>
  kN P (callN (.func (.func 96) #[] #[]) #[v45, (s4.getD 0 undef), v56]) w fun v57 w =>
  kU P (Instr.storeAt 88 v5 v57) w fun _ w =>
  kV P (binV .add 3 (.tmp 42) (.const (.int .i64 1)) (s4.getD 0 undef) (.int .i64 1)) w fun v58 w =>
  R4 [v58] w)
  (kV P (Instr.loadAt 88 v5) w fun v59 w =>
  kU P (Instr.storeAt 88 v4 v59) w fun _ w =>
  retV P 88 v4 w fun r7 =>
  K r7 w)) [(.int .i64 0)] w)
theorem F83_eq (P : Program) (t0 t1 : Value) (w : World) (K : Value → World → Prop) : funE P ⟨[], [(10, [42])], [(8, [0, 1])]⟩ Try.f83 [t0, t1] w K = F83 P t0 t1 w K := by kernel_rfl
theorem F83_ok (t0 t1 : Value) (w : World) (K : Value → World → Prop) (h : F83 Try.prog t0 t1 w K) : callsK Try.prog 83 #[t0, t1] w K := calls_of_eq mixedM Try.func83 (F83_eq _ t0 t1 w K) h

/-- (mintmark/tags.Set).With -/
def F96 (P : Program) (t0 t1 t2 : Value) (w : World) (K : Value → World → Prop) : Prop :=
  kV P (Instr.box 88 t0) w fun v3 w =>
  kV P (Instr.alloc 88 true (.tuple #[])) w fun v6 w =>
  kN P (callN (.func (.func 65) #[] #[]) #[t1]) w fun v9 w =>
  kV P (Op.unary .not v9) w fun v10 w =>
  condK v10
  (kV P (Instr.loadAt 88 v3) w fun v11 w =>
  kU P (Instr.storeAt 88 v6 v11) w fun _ w =>
  retV P 88 v6 w fun r0 =>
  K r0 w)
  (kV P (binV .rem 3 (.tmp 12) (.const (.int .i64 64)) t1 (.int .i64 64)) w fun v13 w =>
  kV P (binV .shl 28 (.const (.int .u64 1)) (.tmp 13) (.int .u64 1) v13) w fun v14 w =>
  joinL (fun J1 =>
  condK t2
  (kV P (binV .quo 3 (.tmp 16) (.const (.int .i64 64)) t1 (.int .i64 64)) w fun v17 w =>
  kV P (Instr.indexAt 88 v3 v17) w fun v18 w =>
  kV P (Instr.loadAt 28 v18) w fun v19 w =>
  kV P (binV .or 28 (.tmp 19) (.tmp 20) v19 v14) w fun v21 w =>
  kV P (Instr.indexAt 88 v3 v17) w fun v22 w =>
  kU P (Instr.storeAt 28 v22 v21) w fun _ w =>
  J1 [] w)
  (kV P (binV .quo 3 (.tmp 23) (.const (.int .i64 64)) t1 (.int .i64 64)) w fun v24 w =>
  kV P (Instr.indexAt 88 v3 v24) w fun v25 w =>
  kV P (Instr.loadAt 28 v25) w fun v26 w =>
  kV P (binV .andNot 28 (.tmp 26) (.tmp 27) v26 v14) w fun v28 w =>
  kV P (Instr.indexAt 88 v3 v24) w fun v29 w =>
  kU P (Instr.storeAt 28 v29 v28) w fun _ w =>
  J1 [] w)) fun s1 w => ∀ _ : Nat → Value,
  kV P (Instr.loadAt 88 v3) w fun v30 w =>
  kU P (Instr.storeAt 88 v6 v30) w fun _ w =>
  retV P 88 v6 w fun r3 =>
  K r3 w)
theorem F96_eq (P : Program) (t0 t1 t2 : Value) (w : World) (K : Value → World → Prop) : funE P ⟨[], [], [(7, [])]⟩ Try.f96 [t0, t1, t2] w K = F96 P t0 t1 t2 w K := by kernel_rfl
theorem F96_ok (t0 t1 t2 : Value) (w : World) (K : Value → World → Prop) (h : F96 Try.prog t0 t1 t2 w K) : callsK Try.prog 96 #[t0, t1, t2] w K := calls_of_eq mixedM Try.func96 (F96_eq _ t0 t1 t2 w K) h

end Go.Proofs.Ytgnibcaflidjmaa
