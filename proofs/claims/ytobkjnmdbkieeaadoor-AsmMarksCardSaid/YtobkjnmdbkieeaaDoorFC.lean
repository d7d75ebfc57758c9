/- The formulas of functions of this seat, each tied to its calls; conditions: none. -/
import Derived.Test.YtobkjnmdbkieeaaDoorProg
import Derived.Test.YtobkjnmdbkieeaaDoorFx
import Derived.KernelRfl
namespace Go.Proofs.YtobkjnmdbkieeaaDoor
open Go.Fx
set_option linter.unusedVariables false
set_option linter.constructorNameAsVariable false
set_option maxRecDepth 100000
theorem mixedC : Tryd.prog.follows .mixedOrders = true := by kernel_rfl
/-- mintmark/field.Fits -/
def F18 (P : Program) (t0 t1 t2 : Value) (w : World) (K : Value → World → Prop) : Prop :=
  kV P (binV .lss 3 (.tmp 8) (.const (.int .i64 1)) t1 (.int .i64 1)) w fun v9 w =>
  joinK (fun J0 : Value → World → Prop => gdK (yb v9) false (fun k => k t1 w) w fun v11 w =>
  gdK (yb v9) false (fun k => kV P (binV .gtr 3 (.tmp 11) (.const (.int .i64 64)) v11 (.int .i64 64)) w k) w fun v12 w =>
  kN P (pickN v9 (.bool true) v12) w fun v13_1 w =>
  J0 v13_1 w) fun v13 w =>
  condK v13
  (K (.bool false) w)
  (condK t2
  (kV P (convert 2 42 t0) w fun v17 w =>
  kN P (callN (.func (.func 41) #[] #[]) #[v17, t1]) w fun v19 w =>
  kV P (convert 2 42 t0) w fun v21 w =>
  kV P (binV .eql 42 (.tmp 19) (.tmp 21) v19 v21) w fun v22 w =>
  K v22 w)
  (kV P (binV .geq 2 (.tmp 23) (.const (.int .i64 0)) t0 (.int .i64 0)) w fun v24 w =>
  joinK (fun J1 : Value → World → Prop => gdK (yb v24) true (fun k => k t0 w) w fun v26 w =>
  gdK (yb v24) true (fun k => kV P (convert 2 42 v26) w k) w fun v27 w =>
  gdK (yb v24) true (fun k => k t1 w) w fun v28 w =>
  gdK (yb v24) true (fun k => kN P (callN (.func (.func 39) #[] #[]) #[v28]) w k) w fun v29 w =>
  gdK (yb v24) true (fun k => kV P (binV .andNot 42 (.tmp 27) (.tmp 29) v27 v29) w k) w fun v30 w =>
  gdK (yb v24) true (fun k => kV P (binV .eql 42 (.tmp 30) (.const (.int .u64 0)) v30 (.int .u64 0)) w k) w fun v31 w =>
  kN P (pickN v24 v31 (.bool false)) w fun v32_1 w =>
  J1 v32_1 w) fun v32 w =>
  K v32 w))
theorem F18_eq (P : Program) (t0 t1 t2 : Value) (w : World) (K : Value → World → Prop) : funE P ⟨[], [], []⟩ Tryd.f18 [t0, t1, t2] w K = F18 P t0 t1 t2 w K := by kernel_rfl
theorem F18_ok (t0 t1 t2 : Value) (w : World) (K : Value → World → Prop) (h : F18 Tryd.prog t0 t1 t2 w K) : callsK Tryd.prog 18 #[t0, t1, t2] w K := calls_of_eq mixedC Tryd.func18 (F18_eq _ t0 t1 t2 w K) h

/-- mintmark/field.Put -/
def F19 (P : Program) (t0 t1 t2 t3 : Value) (w : World) (K : Value → World → Prop) : Prop :=
  kN P (callN (.func (.func 42) #[] #[]) #[t1, t2]) w fun v12 w =>
  kV P (Op.unary .not v12) w fun v13 w =>
  condK v13
  (K t0 w)
  (kN P (callN (.func (.func 39) #[] #[]) #[t2]) w fun v16 w =>
  drewK (fun w =>
  sV P (binV .shl 42 (.tmp 18) (.tmp 19) v16 t1) w fun v20 =>
  sV P (binV .andNot 42 (.tmp 17) (.tmp 20) t0 v20) w fun v21 =>
  sV P (binV .and 42 (.tmp 22) (.tmp 23) t3 v16) w fun v24 =>
  sV P (binV .shl 42 (.tmp 24) (.tmp 25) v24 t1) w fun v26 =>
  sV P (binV .or 42 (.tmp 21) (.tmp 26) v21 v26) w fun v27 =>
  K v27 w) w)
theorem F19_eq (P : Program) (t0 t1 t2 t3 : Value) (w : World) (K : Value → World → Prop) : funE P ⟨[], [], []⟩ Tryd.f19 [t0, t1, t2, t3] w K = F19 P t0 t1 t2 t3 w K := by kernel_rfl
theorem F19_ok (t0 t1 t2 t3 : Value) (w : World) (K : Value → World → Prop) (h : F19 Tryd.prog t0 t1 t2 t3 w K) : callsK Tryd.prog 19 #[t0, t1, t2, t3] w K := calls_of_eq mixedC Tryd.func19 (F19_eq _ t0 t1 t2 t3 w K) h

/-- mintmark/field.Get -/
def F38 (P : Program) (t0 t1 t2 : Value) (w : World) (K : Value → World → Prop) : Prop :=
  kN P (callN (.func (.func 42) #[] #[]) #[t1, t2]) w fun v9 w =>
  kV P (Op.unary .not v9) w fun v10 w =>
  condK v10
  (K (.int .u64 0) w)
  (drewK (fun w =>
  pV P (binV .shr 42 (.tmp 11) (.tmp 12) t0 t1) fun v13 =>
  kN P (callN (.func (.func 39) #[] #[]) #[t2]) w fun v15 w =>
  pV P (binV .and 42 (.tmp 13) (.tmp 15) v13 v15) fun v16 =>
  K v16 w) w)
theorem F38_eq (P : Program) (t0 t1 t2 : Value) (w : World) (K : Value → World → Prop) : funE P ⟨[(3, 999)], [], []⟩ Tryd.f38 [t0, t1, t2] w K = F38 P t0 t1 t2 w K := by kernel_rfl
theorem F38_ok (t0 t1 t2 : Value) (w : World) (K : Value → World → Prop) (h : F38 Tryd.prog t0 t1 t2 w K) : callsK Tryd.prog 38 #[t0, t1, t2] w K := calls_of_eq mixedC Tryd.func38 (F38_eq _ t0 t1 t2 w K) h

/-- mintmark/field.Mask -/
def F39 (P : Program) (t0 : Value) (w : World) (K : Value → World → Prop) : Prop :=
  kV P (binV .lss 3 (.tmp 4) (.const (.int .i64 1)) t0 (.int .i64 1)) w fun v5 w =>
  condK v5
  (K (.int .u64 0) w)
  (kV P (binV .geq 3 (.tmp 7) (.const (.int .i64 64)) t0 (.int .i64 64)) w fun v8 w =>
  condK v8
  (K (.int .u64 18446744073709551615) w)
  (kV P (binV .shl 42 (.const (.int .u64 1)) (.tmp 9) (.int .u64 1) t0) w fun v10 w =>
  kV P (binV .sub 42 (.tmp 10) (.const (.int .u64 1)) v10 (.int .u64 1)) w fun v11 w =>
  K v11 w))
theorem F39_eq (P : Program) (t0 : Value) (w : World) (K : Value → World → Prop) : funE P ⟨[], [], []⟩ Tryd.f39 [t0] w K = F39 P t0 w K := by kernel_rfl
theorem F39_ok (t0 : Value) (w : World) (K : Value → World → Prop) (h : F39 Tryd.prog t0 w K) : callsK Tryd.prog 39 #[t0] w K := calls_of_eq mixedC Tryd.func39 (F39_eq _ t0 w K) h

/-- mintmark/field.Sign -/
def F41 (P : Program) (t0 t1 : Value) (w : World) (K : Value → World → Prop) : Prop :=
  kV P (binV .lss 3 (.tmp 6) (.const (.int .i64 1)) t1 (.int .i64 1)) w fun v7 w =>
  joinK (fun J0 : Value → World → Prop => gdK (yb v7) false (fun k => k t1 w) w fun v9 w =>
  gdK (yb v7) false (fun k => kV P (binV .gtr 3 (.tmp 9) (.const (.int .i64 64)) v9 (.int .i64 64)) w k) w fun v10 w =>
  kN P (pickN v7 (.bool true) v10) w fun v11_1 w =>
  J0 v11_1 w) fun v11 w =>
  condK v11
  (K (.int .u64 0) w)
  (kV P (binV .sub 3 (.const (.int .i64 64)) (.tmp 12) (.int .i64 64) t1) w fun v13 w =>
  kV P (binV .shl 42 (.tmp 14) (.tmp 15) t0 v13) w fun v16 w =>
  kV P (convert 42 2 v16) w fun v17 w =>
  kV P (binV .shr 2 (.tmp 17) (.tmp 18) v17 v13) w fun v19 w =>
  kV P (convert 2 42 v19) w fun v20 w =>
  K v20 w)
theorem F41_eq (P : Program) (t0 t1 : Value) (w : World) (K : Value → World → Prop) : funE P ⟨[], [], []⟩ Tryd.f41 [t0, t1] w K = F41 P t0 t1 w K := by kernel_rfl
theorem F41_ok (t0 t1 : Value) (w : World) (K : Value → World → Prop) (h : F41 Tryd.prog t0 t1 w K) : callsK Tryd.prog 41 #[t0, t1] w K := calls_of_eq mixedC Tryd.func41 (F41_eq _ t0 t1 w K) h

/-- mintmark/field.may -/
def F42 (P : Program) (t0 t1 : Value) (w : World) (K : Value → World → Prop) : Prop :=
  kV P (binV .geq 3 (.tmp 5) (.const (.int .i64 0)) t1 (.int .i64 0)) w fun v6 w =>
  joinK (fun J0 : Value → World → Prop => gdK (yb v6) true (fun k => k t1 w) w fun v8 w =>
  gdK (yb v6) true (fun k => kV P (binV .leq 3 (.tmp 8) (.const (.int .i64 64)) v8 (.int .i64 64)) w k) w fun v9 w =>
  kN P (pickN v6 v9 (.bool false)) w fun v10_1 w =>
  J0 v10_1 w) fun v10 w =>
  joinK (fun J1 : Value → World → Prop => gdK (yb v10) true (fun k => k t0 w) w fun v12 w =>
  gdK (yb v10) true (fun k => kV P (binV .geq 3 (.tmp 12) (.const (.int .i64 0)) v12 (.int .i64 0)) w k) w fun v13 w =>
  kN P (pickN v10 v13 (.bool false)) w fun v14_1 w =>
  J1 v14_1 w) fun v14 w =>
  joinK (fun J2 : Value → World → Prop => gdK (yb v14) true (fun k => k t0 w) w fun v16 w =>
  gdK (yb v14) true (fun k => k t1 w) w fun v17 w =>
  gdK (yb v14) true (fun k => kV P (binV .sub 3 (.const (.int .i64 64)) (.tmp 17) (.int .i64 64) v17) w k) w fun v18 w =>
  gdK (yb v14) true (fun k => kV P (binV .leq 3 (.tmp 16) (.tmp 18) v16 v18) w k) w fun v19 w =>
  kN P (pickN v14 v19 (.bool false)) w fun v20_1 w =>
  J2 v20_1 w) fun v20 w =>
  K v20 w
theorem F42_eq (P : Program) (t0 t1 : Value) (w : World) (K : Value → World → Prop) : funE P ⟨[], [], []⟩ Tryd.f42 [t0, t1] w K = F42 P t0 t1 w K := by kernel_rfl
theorem F42_ok (t0 t1 : Value) (w : World) (K : Value → World → Prop) (h : F42 Tryd.prog t0 t1 w K) : callsK Tryd.prog 42 #[t0, t1] w K := calls_of_eq mixedC Tryd.func42 (F42_eq _ t0 t1 w K) h

end Go.Proofs.YtobkjnmdbkieeaaDoor
