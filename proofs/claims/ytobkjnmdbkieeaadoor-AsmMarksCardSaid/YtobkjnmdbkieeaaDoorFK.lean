/- The formulas of functions of this seat, each tied to its calls; conditions: none. -/
import Derived.Test.YtobkjnmdbkieeaaDoorProg
import Derived.Test.YtobkjnmdbkieeaaDoorFx
import Derived.KernelRfl
namespace Go.Proofs.YtobkjnmdbkieeaaDoor
open Go.Fx
set_option linter.unusedVariables false
set_option linter.constructorNameAsVariable false
set_option maxRecDepth 100000
theorem mixedK : Tryd.prog.follows .mixedOrders = true := by kernel_rfl
abbrev kUm (P : Program) (s : Sem Unit) (w : World) (K : Value → World → Prop) : Prop := resKF.match_1 (motive := fun _ => (Value → World → Prop) → Prop) ((uN s).run P w) (fun v w' => fun K => K v w') (fun w' => fun K => K undef w') (fun f args w' => fun K => Calls P f args w' fun e w'' => ∃ v, e = Ending.returned v ∧ K v w'') (fun _ => fun _ => False) K
theorem kUm_eq (P : Program) (s : Sem Unit) (w : World) (K : Value → World → Prop) : kUm P s w K = kU P s w K := by kernel_rfl
/-- mintmark/mintmarklaw14.AsmMarks -/
def F4 (P : Program) (t0 t1 t2 : Value) (w : World) (K : Value → World → Prop) : Prop :=
  kV P (Instr.box 37 t2) w fun v5 w =>
  kV P (binV .and 3 (.tmp 16) (.const (.int .i64 63)) t0 (.int .i64 63)) w fun v17 w =>
  kV P (binV .and 3 (.tmp 18) (.const (.int .i64 63)) t1 (.int .i64 63)) w fun v19 w =>
  kV P (Instr.alloc 9 true (.tuple #[])) w fun v7 w =>
  kU P (Instr.storeAt 9 v7 (.string ⟨#[]⟩)) w fun _ w =>
  kUm P (Instr.storeAt 9 v7 (.string ⟨#[97, 58, 10]⟩)) w fun _ w =>
  kN P (callN (.func (.func 10) #[] #[v7, v5]) #[v17]) w fun v23 w =>
  kV P (Instr.loadAt 9 v7) w fun v24 w =>
  kV P (binV .add 9 (.tmp 24) (.const (.string ⟨#[98, 101, 113, 32, 99, 49, 44, 32, 99, 50, 44, 32, 98, 10, 106, 97, 108, 32, 99, 51, 44, 32, 97, 10]⟩)) v24 (.string ⟨#[98, 101, 113, 32, 99, 49, 44, 32, 99, 50, 44, 32, 98, 10, 106, 97, 108, 32, 99, 51, 44, 32, 97, 10]⟩)) w fun v25 w =>
  kU P (Instr.storeAt 9 v7 v25) w fun _ w =>
  kN P (callN (.func (.func 10) #[] #[v7, v5]) #[v19]) w fun v28 w =>
  kV P (Instr.loadAt 9 v7) w fun v29 w =>
  kV P (binV .add 9 (.tmp 29) (.const (.string ⟨#[98, 58, 10]⟩)) v29 (.string ⟨#[98, 58, 10]⟩)) w fun v30 w =>
  kU P (Instr.storeAt 9 v7 v30) w fun _ w =>
  kV P (Instr.loadAt 9 v7) w fun v32 w =>
  kN P (callN (.func (.func 8) #[] #[]) #[v32]) w fun v33 w =>
  kV P (Instr.extract v33 0) w fun v34 w =>
  kV P (Instr.extract v33 1) w fun v35 w =>
  kV P (Instr.extract v33 2) w fun v36 w =>
  kV P (binV .neq 32 (.tmp 37) (.const (.int .i64 0)) v36 (.int .i64 0)) w fun v38 w =>
  joinK (fun J0 : Value → World → Prop => gdK (yb v38) false (fun k => k v34 w) w fun v40 w =>
  gdK (yb v38) false (fun k => kV P (Builtin.len_ #[23] 3 #[v40]) w k) w fun v41 w =>
  gdK (yb v38) false (fun k => k v17 w) w fun v42 w =>
  gdK (yb v38) false (fun k => k v19 w) w fun v43 w =>
  gdK (yb v38) false (fun k => kV P (binV .add 3 (.tmp 42) (.tmp 43) v42 v43) w k) w fun v44 w =>
  gdK (yb v38) false (fun k => kV P (binV .add 3 (.tmp 44) (.const (.int .i64 2)) v44 (.int .i64 2)) w k) w fun v45 w =>
  gdK (yb v38) false (fun k => kV P (binV .neq 3 (.tmp 41) (.tmp 45) v41 v45) w k) w fun v46 w =>
  kN P (pickN v38 (.bool true) v46) w fun v47_1 w =>
  J0 v47_1 w) fun v47 w =>
  condK v47
  (K (.bool false) w)
  (kV P (Instr.indexAt 23 v34 v17) w fun v51 w =>
  kV P (Instr.loadAt 24 v51) w fun v52 w =>
  kN P (callN (.func (.func 11) #[] #[]) #[v52]) w fun v53 w =>
  kV P (Instr.extract v53 0) w fun v54 w =>
  kV P (Instr.extract v53 1) w fun v55 w =>
  kV P (Instr.alloc 28 true (.tuple #[])) w fun v12 w =>
  kU P (Instr.storeAt 28 v12 v54) w fun _ w =>
  kV P (binV .add 3 (.tmp 58) (.const (.int .i64 1)) v17 (.int .i64 1)) w fun v59 w =>
  kV P (Instr.indexAt 23 v34 v59) w fun v60 w =>
  kV P (Instr.loadAt 24 v60) w fun v61 w =>
  kN P (callN (.func (.func 11) #[] #[]) #[v61]) w fun v62 w =>
  kV P (Instr.extract v62 0) w fun v63 w =>
  kV P (Instr.extract v62 1) w fun v64 w =>
  kV P (Instr.alloc 28 true (.tuple #[])) w fun v14 w =>
  kU P (Instr.storeAt 28 v14 v63) w fun _ w =>
  joinK (fun J1 : Value → World → Prop => gdK (yb v55) true (fun k => k v64 w) w fun v67 w =>
  kN P (pickN v55 v67 (.bool false)) w fun v68_1 w =>
  J1 v68_1 w) fun v68 w =>
  joinK (fun J2 : Value → World → Prop => gdK (yb v68) true (fun k => kV P (Instr.loadAt 28 v12) w k) w fun v70 w =>
  gdK (yb v68) true (fun k => k v19 w) w fun v71 w =>
  gdK (yb v68) true (fun k => kV P (binV .add 3 (.tmp 71) (.const (.int .i64 2)) v71 (.int .i64 2)) w k) w fun v72 w =>
  gdK (yb v68) true (fun k => kV P (binV .mul 2 (.const (.int .i64 4)) (.tmp 72) (.int .i64 4) v72) w k) w fun v73 w =>
  gdK (yb v68) true (fun k => kV P (Instr.build 28 #[(0, (.int .i64 5)), (2, (.int .i64 1)), (3, (.int .i64 2)), (4, v73)]) w k) w fun v74 w =>
  gdK (yb v68) true (fun k => kV P (binV .eql 28 (.tmp 70) (.tmp 74) v70 v74) w k) w fun v75 w =>
  kN P (pickN v68 v75 (.bool false)) w fun v76_1 w =>
  J2 v76_1 w) fun v76 w =>
  joinK (fun J3 : Value → World → Prop => gdK (yb v76) true (fun k => kV P (Instr.loadAt 28 v14) w k) w fun v78 w =>
  gdK (yb v76) true (fun k => k v17 w) w fun v79 w =>
  gdK (yb v76) true (fun k => kV P (binV .add 3 (.tmp 79) (.const (.int .i64 1)) v79 (.int .i64 1)) w k) w fun v80 w =>
  gdK (yb v76) true (fun k => kV P (binV .mul 2 (.const (.int .i64 (Int.negSucc 3))) (.tmp 80) (.int .i64 (Int.negSucc 3)) v80) w k) w fun v81 w =>
  gdK (yb v76) true (fun k => kV P (Instr.build 28 #[(0, (.int .i64 3)), (1, (.int .i64 3)), (4, v81)]) w k) w fun v82 w =>
  gdK (yb v76) true (fun k => kV P (binV .eql 28 (.tmp 78) (.tmp 82) v78 v82) w k) w fun v83 w =>
  kN P (pickN v76 v83 (.bool false)) w fun v84_1 w =>
  J3 v84_1 w) fun v84 w =>
  joinK (fun J4 : Value → World → Prop => gdK (yb v84) true (fun k => kN P (callN (.func (.func 9) #[] #[]) #[]) w k) w fun v86 w =>
  kN P (pickN v84 v86 (.bool false)) w fun v87_1 w =>
  J4 v87_1 w) fun v87 w =>
  K v87 w)
theorem F4_eq (P : Program) (t0 t1 t2 : Value) (w : World) (K : Value → World → Prop) : funE P ⟨[], [], []⟩ Tryd.f4 [t0, t1, t2] w K = F4 P t0 t1 t2 w K := by kernel_rfl
theorem F4_ok (t0 t1 t2 : Value) (w : World) (K : Value → World → Prop) (h : F4 Tryd.prog t0 t1 t2 w K) : callsK Tryd.prog 4 #[t0, t1, t2] w K := calls_of_eq mixedK Tryd.func4 (F4_eq _ t0 t1 t2 w K) h

/-- mintmark/mintmarklaw14.AsmMarks$1 -/
def F10 (P : Program) (t0 t1 t2 : Value) (w : World) (K : Value → World → Prop) : Prop :=
  loopT (fun R0 s0 w => ∀ _ : Nat → Value,
  kV P (binV .lss 3 (.tmp 5) (.tmp 6) (s0.getD 0 undef) t0) w fun v7 w =>
  condK v7
  (joinL (fun J2 =>
  kV P (Instr.loadAt 9 t1) w fun v10 w =>
  kV P (binV .add 9 (.tmp 10) (.const (.string ⟨#[97, 100, 100, 105, 32, 99, 49, 44, 32, 99, 49, 44, 32, 49, 10]⟩)) v10 (.string ⟨#[97, 100, 100, 105, 32, 99, 49, 44, 32, 99, 49, 44, 32, 49, 10]⟩)) w fun v11 w =>
  kU P (Instr.storeAt 9 t1 v11) w fun _ w =>
  kV P (Instr.loadAt 37 t2) w fun v13 w =>
  kV P (Builtin.len_ #[37] 3 #[v13]) w fun v14 w =>
  kV P (binV .lss 3 (.tmp 12) (.tmp 14) (s0.getD 0 undef) v14) w fun v15 w =>
  condK v15
  (drewK (fun w =>
  relX fun R4 =>
  postX R4 (fun p4_16 => allX R4 w fun V4 w => True → kV P (Instr.loadAt 9 t1) w (okX R4 w p4_16)) fun p4_16 =>
  postX R4 (fun p4_17 => allX R4 w fun V4 w => True → (okX R4 w p4_17) (s0.getD 0 undef) w) fun p4_17 =>
  postX R4 (fun p4_18 => allX R4 w fun V4 w => p4_17 (V4 17) w ∧ True → kV P (binV .rem 3 (.tmp 17) (.const (.int .i64 10)) (V4 17) (.int .i64 10)) w (okX R4 w p4_18)) fun p4_18 =>
  postX R4 (fun p4_19 => allX R4 w fun V4 w => p4_18 (V4 18) w ∧ True → kV P (Instr.index 9 (.string ⟨#[48, 49, 50, 51, 52, 53, 54, 55, 56, 57]⟩) (V4 18)) w (okX R4 w p4_19)) fun p4_19 =>
  postX R4 (fun p4_20 => allX R4 w fun V4 w => p4_19 (V4 19) w ∧ True → kV P (convert 5 9 (V4 19)) w (okX R4 w p4_20)) fun p4_20 =>
  postX R4 (fun p4_21 => allX R4 w fun V4 w => p4_20 (V4 20) w ∧ True → kV P (binV .add 9 (.const (.string ⟨#[111, 116, 104, 101, 114]⟩)) (.tmp 20) (.string ⟨#[111, 116, 104, 101, 114]⟩) (V4 20)) w (okX R4 w p4_21)) fun p4_21 =>
  postX R4 (fun p4_22 => allX R4 w fun V4 w => True → (okX R4 w p4_22) (s0.getD 0 undef) w) fun p4_22 =>
  postX R4 (fun p4_23 => allX R4 w fun V4 w => p4_22 (V4 22) w ∧ True → kV P (binV .quo 3 (.tmp 22) (.const (.int .i64 10)) (V4 22) (.int .i64 10)) w (okX R4 w p4_23)) fun p4_23 =>
  postX R4 (fun p4_24 => allX R4 w fun V4 w => p4_23 (V4 23) w ∧ True → kV P (binV .rem 3 (.tmp 23) (.const (.int .i64 10)) (V4 23) (.int .i64 10)) w (okX R4 w p4_24)) fun p4_24 =>
  postX R4 (fun p4_25 => allX R4 w fun V4 w => p4_24 (V4 24) w ∧ True → kV P (Instr.index 9 (.string ⟨#[48, 49, 50, 51, 52, 53, 54, 55, 56, 57]⟩) (V4 24)) w (okX R4 w p4_25)) fun p4_25 =>
  postX R4 (fun p4_26 => allX R4 w fun V4 w => p4_25 (V4 25) w ∧ True → kV P (convert 5 9 (V4 25)) w (okX R4 w p4_26)) fun p4_26 =>
  postX R4 (fun p4_27 => allX R4 w fun V4 w => p4_21 (V4 21) w ∧ p4_26 (V4 26) w ∧ True → kV P (binV .add 9 (.tmp 21) (.tmp 26) (V4 21) (V4 26)) w (okX R4 w p4_27)) fun p4_27 =>
  postX R4 (fun p4_28 => allX R4 w fun V4 w => p4_27 (V4 27) w ∧ True → kV P (binV .add 9 (.tmp 27) (.const (.string ⟨#[58, 10]⟩)) (V4 27) (.string ⟨#[58, 10]⟩)) w (okX R4 w p4_28)) fun p4_28 =>
  postX R4 (fun p4_29 => allX R4 w fun V4 w => p4_28 (V4 28) w ∧ True → kV P (Instr.buildSlice 38 5 #[(0, (.string ⟨#[]⟩)), (1, (.string ⟨#[10]⟩)), (2, (.string ⟨#[35, 32, 120, 10]⟩)), (3, (.string ⟨#[32, 32, 10]⟩)), (4, (V4 28))]) w (okX R4 w p4_29)) fun p4_29 =>
  postX R4 (fun p4_30 => allX R4 w fun V4 w => True → kV P (Instr.loadAt 37 t2) w (okX R4 w p4_30)) fun p4_30 =>
  postX R4 (fun p4_31 => allX R4 w fun V4 w => True → (okX R4 w p4_31) (s0.getD 0 undef) w) fun p4_31 =>
  postX R4 (fun p4_32 => allX R4 w fun V4 w => p4_30 (V4 30) w ∧ p4_31 (V4 31) w ∧ True → kV P (Instr.indexAt 37 (V4 30) (V4 31)) w (okX R4 w p4_32)) fun p4_32 =>
  postX R4 (fun p4_33 => allX R4 w fun V4 w => p4_32 (V4 32) w ∧ True → kV P (Instr.loadAt 3 (V4 32)) w (okX R4 w p4_33)) fun p4_33 =>
  postX R4 (fun p4_34 => allX R4 w fun V4 w => p4_33 (V4 33) w ∧ True → kV P (binV .and 3 (.tmp 33) (.const (.int .i64 3)) (V4 33) (.int .i64 3)) w (okX R4 w p4_34)) fun p4_34 =>
  postX R4 (fun p4_35 => allX R4 w fun V4 w => p4_29 (V4 29) w ∧ p4_34 (V4 34) w ∧ True → kV P (Instr.indexAt 38 (V4 29) (V4 34)) w (okX R4 w p4_35)) fun p4_35 =>
  postX R4 (fun p4_36 => allX R4 w fun V4 w => p4_35 (V4 35) w ∧ True → kV P (Instr.loadAt 9 (V4 35)) w (okX R4 w p4_36)) fun p4_36 =>
  postX R4 (fun p4_37 => allX R4 w fun V4 w => p4_16 (V4 16) w ∧ p4_36 (V4 36) w ∧ True → kV P (binV .add 9 (.tmp 16) (.tmp 36) (V4 16) (V4 36)) w (okX R4 w p4_37)) fun p4_37 =>
  allX R4 w fun V4 w => p4_16 (V4 16) w ∧ p4_17 (V4 17) w ∧ p4_18 (V4 18) w ∧ p4_19 (V4 19) w ∧ p4_20 (V4 20) w ∧ p4_21 (V4 21) w ∧ p4_22 (V4 22) w ∧ p4_23 (V4 23) w ∧ p4_24 (V4 24) w ∧ p4_25 (V4 25) w ∧ p4_26 (V4 26) w ∧ p4_27 (V4 27) w ∧ p4_28 (V4 28) w ∧ p4_29 (V4 29) w ∧ p4_30 (V4 30) w ∧ p4_31 (V4 31) w ∧ p4_32 (V4 32) w ∧ p4_33 (V4 33) w ∧ p4_34 (V4 34) w ∧ p4_35 (V4 35) w ∧ p4_36 (V4 36) w ∧ p4_37 (V4 37) w ∧ True → xDist V4 [] →
  kU P (Instr.storeAt 9 t1 (V4 37)) w fun _ w =>
  J2 [] w) w)
  (J2 [] w)) fun s2 w => ∀ _ : Nat → Value,
  kV P (binV .add 3 (.tmp 8) (.const (.int .i64 1)) (s0.getD 0 undef) (.int .i64 1)) w fun v9 w =>
  R0 [v9] w)
  (K (.tuple #[]) w)) [(.int .i64 0)] w
theorem F10_eq (P : Program) (t0 t1 t2 : Value) (w : World) (K : Value → World → Prop) : funE P ⟨[(5, 1022)], [(1, [4])], [(2, [])]⟩ Tryd.f10 [t0, t1, t2] w K = F10 P t0 t1 t2 w K := by kernel_rfl
theorem F10_ok (t0 t1 t2 : Value) (w : World) (K : Value → World → Prop) (h : F10 Tryd.prog t0 t1 t2 w K) : callsK Tryd.prog 10 #[t0, t1, t2] w K := calls_of_eq mixedK Tryd.func10 (F10_eq _ t0 t1 t2 w K) h

end Go.Proofs.YtobkjnmdbkieeaaDoor
